/- The walk through tactuskit.Voice. -/
import Derived.Test.YtiphacmmglohaaaKitS
import Derived.BigRegion
namespace Go.Proofs.Ytiphacmmglohaaa
open Go.RowKit
def csI (l : List Int) : List Value := l.flatMap fun n => [.int .i64 n]
theorem voiceZ_append (l m : List Int) : ∀ i, voiceZ i (l ++ m) = voiceZ i l ++ voiceZ (i + l.length) m := by
  induction l with
  | nil => intro i; simp [voiceZ]
  | cons x l ih => intro i; rw [List.cons_append, voiceZ, voiceZ, ih, List.cons_append, List.length_cons]; congr 2; rw [show i + 1 + (l.length : Int) = i + ((l.length + 1 : Nat) : Int) by omega]
theorem dur_cells : ∀ j : Fin 9, (#[.int .i64 1, .int .i64 1, .int .i64 2, .int .i64 1, .int .i64 1, .int .i64 2, .int .i64 3, .int .i64 1, .int .i64 4, .int .i64 1, .int .i64 3, .int .i64 2, .int .i64 6, .int .i64 1, .int .i64 2, .int .i64 3, .int .i64 4, .int .i64 3] : Array Value)[j.val * 2]? = some (.int .i64 (durT (j.val : Int)).1) ∧ (#[.int .i64 1, .int .i64 1, .int .i64 2, .int .i64 1, .int .i64 1, .int .i64 2, .int .i64 3, .int .i64 1, .int .i64 4, .int .i64 1, .int .i64 3, .int .i64 2, .int .i64 6, .int .i64 1, .int .i64 2, .int .i64 3, .int .i64 4, .int .i64 3] : Array Value)[j.val * 2 + 1]? = some (.int .i64 (durT (j.val : Int)).2) := by
  intro j
  match j with
  | 0 | 1 | 2 | 3 | 4 | 5 | 6 | 7 | 8 => exact ⟨rfl, rfl⟩
theorem dur_at {j : Int} (h : 0 ≤ j) (h' : j < 9) : (#[.int .i64 1, .int .i64 1, .int .i64 2, .int .i64 1, .int .i64 1, .int .i64 2, .int .i64 3, .int .i64 1, .int .i64 4, .int .i64 1, .int .i64 3, .int .i64 2, .int .i64 6, .int .i64 1, .int .i64 2, .int .i64 3, .int .i64 4, .int .i64 3] : Array Value)[j.toNat * 2]? = some (.int .i64 (durT j).1) ∧ (#[.int .i64 1, .int .i64 1, .int .i64 2, .int .i64 1, .int .i64 1, .int .i64 2, .int .i64 3, .int .i64 1, .int .i64 4, .int .i64 1, .int .i64 3, .int .i64 2, .int .i64 6, .int .i64 1, .int .i64 2, .int .i64 3, .int .i64 4, .int .i64 3] : Array Value)[j.toNat * 2 + 1]? = some (.int .i64 (durT j).2) := by
  have := dur_cells ⟨j.toNat, by omega⟩
  simp only [show ((j.toNat : Nat) : Int) = j by omega] at this
  exact this
set_option maxRecDepth 100000 in
set_option maxHeartbeats 2000000 in
theorem voice_any (A : Option Addr) (n c : Nat) (l : List Int) (most : Nat) (w : World) (h : Reads w w.heap.size 1 A n (csI l)) (hn : n ≤ 9223372036854775807) (hl : ∀ x ∈ l, -9223372036854775808 ≤ x ∧ x ≤ 9223372036854775807) (hm : most ≤ 60) :
    Calls Try.prog 30 #[.slice A n c, .int .i64 most] w fun e w' => ∃ A' c', e = .returned (.slice A' (voiceS most l).length c') ∧ OwnE w' w.heap.size (voiceS most l).length A' c' (voiceS most l) ∧ Below w.heap.size w w' := by
  have hlen : l.length = n := h.len (f := fun n => [Value.int .i64 n]) (fun _ => rfl) (by decide)
  have HL := Lib.hid hlen
  have L := Lib.hid hl; clear hl
  have hlen2 : (voiceS most l).length = min most n := by unfold voiceS; rw [lay_len, voice_len, List.length_take, hlen]
  have HL2 := Lib.hid hlen2; clear hlen hlen2
  have hm' : (most : Int) ≤ 60 := by omega
  obtain ⟨i0, hi0, hz0, hz1, hz2⟩ := info_parts event_info
  have rD : Blk (w.alloc (.cells #[.int .i64 1, .int .i64 1, .int .i64 2, .int .i64 1, .int .i64 1, .int .i64 2, .int .i64 3, .int .i64 1, .int .i64 4, .int .i64 1, .int .i64 3, .int .i64 2, .int .i64 6, .int .i64 1, .int .i64 2, .int .i64 3, .int .i64 4, .int .i64 3] 24)) w.heap.size 24 #[.int .i64 1, .int .i64 1, .int .i64 2, .int .i64 1, .int .i64 1, .int .i64 2, .int .i64 3, .int .i64 1, .int .i64 4, .int .i64 1, .int .i64 3, .int .i64 2, .int .i64 6, .int .i64 1, .int .i64 2, .int .i64 3, .int .i64 4, .int .i64 3] := Blk.new _ _ _
  have k0 : Below w.heap.size w (w.alloc (.cells #[.int .i64 1, .int .i64 1, .int .i64 2, .int .i64 1, .int .i64 1, .int .i64 2, .int .i64 3, .int .i64 1, .int .i64 4, .int .i64 1, .int .i64 3, .int .i64 2, .int .i64 6, .int .i64 1, .int .i64 2, .int .i64 3, .int .i64 4, .int .i64 3] 24)) := by repeat (first | exact Below.refl _ _ | refine below_drewN ?_ _ | refine Below.drew ?_ | refine below_alloc ?_ _ | (refine below_call ?_ (by assumption)) | (refine Below.setCell ?_ ?_ _; rotate_left; (simp; try omega)))
  go_enter Try.func30, Try.ntmps30
  go_wp2_with fail
  refine (zero_any _).mono ?_
  rintro e w1 ⟨rfl, hb1⟩
  replace rD := rD.kept hb1
  have k1 := below_call k0 hb1
  have z1 := rD.lt
  have s1 := k1.size
  go_wp2_with fail
  go_loopw [6, 8, 9, 10] (fun v i _ _ wr => ∃ k : Nat, k ≤ min most n ∧ i = .int .i64 k ∧ wr.ownsRow (w1.heap.size + 1) 59 10 v k (csE (voiceS k l)) ∧ Below w.heap.size w wr ∧ Blk wr w.heap.size 24 #[.int .i64 1, .int .i64 1, .int .i64 2, .int .i64 1, .int .i64 1, .int .i64 2, .int .i64 3, .int .i64 1, .int .i64 4, .int .i64 1, .int .i64 3, .int .i64 2, .int .i64 6, .int .i64 1, .int .i64 2, .int .i64 3, .int .i64 4, .int .i64 3] ∧ Blk wr w1.heap.size 24 #[.int .i64 (cq 24 (sumM (voiceZ 0 (l.take k)))).1, .int .i64 (cq 24 (sumM (voiceZ 0 (l.take k)))).2]) (fun _ i _ _ _ => most - (intOf i).toNat)
  case atStart => exact ⟨0, by omega, rfl, ⟨rfl, .inl ⟨rfl, rfl⟩⟩, below_alloc k1 _, rD.alloc _, by simpa [voiceZ, sumM_nil, cq_zero (q := 24) (by omega) (by omega)] using Blk.new w1 24 #[.int .i64 0, .int .i64 1]⟩
  case round =>
    clear rD
    obtain ⟨k, hk, rfl, hown, k2, rD, rA⟩ := hrel
    by_cases hlt : k < min most n
    · have hkm : (k : Int) < (most : Int) := by omega
      have hkn : (k : Int) < (n : Int) := by omega
      obtain ⟨x, hx⟩ := get_some (l := l) (k := k) (by have := HL.out; omega)
      have hxb := L.out x (List.mem_of_getElem? hx)
      obtain ⟨b, off, rfl, hab, hcl⟩ := h.elem (f := fun n => [Value.int .i64 n]) (fun _ => rfl) (show k < n by omega) hx
      have c0 := hcl 0 _ rfl
      rw [← k2.cell (by simp; omega)] at c0
      simp only [Nat.add_zero, Nat.mul_one] at c0
      have hab2 : b < wr.heap.size := Nat.lt_of_lt_of_le hab k2.size
      have HT := Lib.hid (take_get hx)
      clear hcl hx
      obtain ⟨A3, c3, rfl, ho3⟩ := ownE_form hown
      have hm0 := Int.emod_nonneg x (show (3969 : Int) ≠ 0 by omega)
      have hm1 := Int.emod_lt_of_pos x (show (0 : Int) < 3969 by omega)
      have HM := Lib.hid (fun W => mod_any x 3969 W (by omega) (by omega) hxb.1 hxb.2)
      obtain ⟨m, hm2⟩ : ∃ m, m = x % 3969 := ⟨_, rfl⟩
      have hmm := HM.out
      rw [← hm2] at hmm hm0 hm1
      have HMM := Lib.hid hmm
      have hone : oneZ (k : Int) x = (d24 (m / 63 % 9), payS k m) := by rw [hm2]; rfl
      have HO := Lib.hid hone
      clear hmm HM hm2 hone hxb
      have hj0 : 0 ≤ m / 63 % 9 := by omega
      have hj1 : m / 63 % 9 < 9 := by omega
      obtain ⟨g1, g2⟩ := dur_at hj0 hj1
      obtain ⟨D1, D2, D3⟩ := dur_24 hj0 hj1
      have d0 : wr.cell? ⟨w.heap.size, (m / 63 % 9).toNat * 2, none⟩ = some (.int .i64 (durT (m / 63 % 9)).1) := (rD.cell _).trans g1
      have d1 : wr.cell? ⟨w.heap.size, (m / 63 % 9).toNat * 2 + 1, none⟩ = some (.int .i64 (durT (m / 63 % 9)).2) := (rD.cell _).trans g2
      rw [D1] at d0 d1
      have hvs : ∀ z ∈ voiceZ 0 (l.take k), small z := voice_small _ 0 (by omega)
      have hvl : (voiceZ 0 (l.take k)).length ≤ 60 := by rw [voice_len, List.length_take]; omega
      have hsum := small_sum _ hvs
      have hsn := sumM_nonneg (small_fit hvs (by omega)).1
      have i1 := inq_of okq24 hsn (show sumM (voiceZ 0 (l.take k)) ≤ 1099511627776 by omega)
      have i2 := inq_of okq24 (show 0 ≤ d24 (m / 63 % 9) by omega) (show d24 (m / 63 % 9) ≤ 1099511627776 by omega)
      have i3 := inq_of okq24 (show 0 ≤ sumM (voiceZ 0 (l.take k)) + d24 (m / 63 % 9) by omega) (by omega)
      have HP := Lib.hid (fun W => plus_any (cq 24 (sumM (voiceZ 0 (l.take k)))) (cq 24 (d24 (m / 63 % 9))) W (cq_ok i1).1 (cq_ok i2).1)
      have HPE := Lib.hid (plus_cq i1 i2 i3)
      have hnext : voiceS (k + 1) l = voiceS k l ++ [(payS k m).ev (cq 24 (sumM (voiceZ 0 (l.take k)))) (cq 24 (d24 (m / 63 % 9)))] := by
        unfold voiceS
        rw [HT.out, voiceZ_append, lay_append, show ((0 : Int) + (l.take k).length) = (k : Int) by rw [List.length_take]; have := HL.out; omega]
        show _ ++ lay 24 (0 + sumM (voiceZ 0 (l.take k))) [oneZ k x] = _
        rw [HO.out, Int.zero_add]
        rfl
      have hsumn : sumM (voiceZ 0 (l.take (k + 1))) = sumM (voiceZ 0 (l.take k)) + d24 (m / 63 % 9) := by
        rw [HT.out, voiceZ_append, sumM_append, show ((0 : Int) + (l.take k).length) = (k : Int) by rw [List.length_take]; have := HL.out; omega]
        show _ + sumM [oneZ k x] = _
        rw [HO.out]
        simp [sumM]
      have HN := Lib.hid hnext; have HS := Lib.hid hsumn
      clear hnext hsumn D1 D2 D3 hvs hvl hsum hsn i1 i2 i3 g1 g2
      have cA := rA.cell; have zA := rA.lt; have fA := rA.frozen
      have zD := rD.lt
      obtain ⟨⟨s, s'⟩, hS⟩ : ∃ z, z = cq 24 (sumM (voiceZ 0 (l.take k))) := ⟨_, rfl⟩
      obtain ⟨⟨dd, dd'⟩, hD⟩ : ∃ z, z = cq 24 (d24 (m / 63 % 9)) := ⟨_, rfl⟩
      have hpe := HPE.out
      have hn2 := HN.out
      have hp2 := HP.out
      rw [← hS] at hn2 hpe hp2 cA rA
      rw [← hD] at hn2 hpe hp2 d0 d1
      rw [hpe] at hp2
      have HP2 := Lib.hid hp2; have HN2 := Lib.hid hn2
      clear hp2 hn2 hpe hS hD HPE HN HP
      simp only at cA d0 d1
      have zA1 : w1.heap.size < wr.heap.size + 1 := by omega
      go_wp2_with (go_at_call 31; refine (HMM.out _).mono ?_; rintro e wm ⟨rfl, rfl⟩)
      go_region
      have hnA : w1.heap.size ≠ wr.heap.size := by omega
      have hbase : some w1.heap.size ≠ (Value.slice A3 k c3).ownBlock := fun e => by have := (hown.lt _ e.symm).1; omega
      have hbaseD : some w.heap.size ≠ (Value.slice A3 k c3).ownBlock := fun e => by have := (hown.lt _ e.symm).1; omega
      have hbaseX : some wr.heap.size ≠ (Value.slice A3 k c3).ownBlock := fun e => by have := (hown.lt _ e.symm).2; omega
      have K : Below wr.heap.size wr ((wr.alloc (.cells #[.int .i64 s, .int .i64 s', .int .i64 dd, .int .i64 dd', .int .i64 0, .int .i64 0, .int .i64 0, .bool false, .int .i64 k, .int .i64 (m / 567 % 2)] 59)).drew) := by repeat (first | with_reducible exact Below.refl _ _ | with_reducible assumption | with_reducible refine below_drewN ?_ _ | with_reducible refine Below.drew ?_ | with_reducible refine below_alloc ?_ _ | (with_reducible refine Below.setCell ?_ ?_ _; rotate_left; ((try simp only); omega)))
      have rX : Blk ((wr.alloc (.cells #[.int .i64 s, .int .i64 s', .int .i64 dd, .int .i64 dd', .int .i64 0, .int .i64 0, .int .i64 0, .bool false, .int .i64 k, .int .i64 (m / 567 % 2)] 59)).drew) wr.heap.size 59 #[.int .i64 s, .int .i64 s', .int .i64 dd, .int .i64 dd', .int .i64 0, .int .i64 0, .int .i64 0, .bool false, .int .i64 k, .int .i64 (m / 567 % 2)] := (Blk.new _ _ _).drew
      have rA5 : Blk ((wr.alloc (.cells #[.int .i64 s, .int .i64 s', .int .i64 dd, .int .i64 dd', .int .i64 0, .int .i64 0, .int .i64 0, .bool false, .int .i64 k, .int .i64 (m / 567 % 2)] 59)).drew) w1.heap.size 24 #[.int .i64 s, .int .i64 s'] := (rA.alloc _).drew
      generalize (wr.alloc (.cells #[.int .i64 s, .int .i64 s', .int .i64 dd, .int .i64 dd', .int .i64 0, .int .i64 0, .int .i64 0, .bool false, .int .i64 k, .int .i64 (m / 567 % 2)] 59)).drew = wv at K rX rA5 ⊢
      have rD0 := rD
      have zAr := rA.lt
      clear rD cA zA fA d0 d1 c0 zA1 rA
      have rA := rA5; clear rA5
      have cA := rA.cell; have zA := rA.lt; have fA := rA.frozen
      have cX := rX.cell; have zX := rX.lt; have fX := rX.frozen
      have nAX : w1.heap.size ≠ wr.heap.size := by omega
      have nXA : wr.heap.size ≠ w1.heap.size := by omega
      have nDA : w.heap.size ≠ w1.heap.size := by omega
      have nDX : w.heap.size ≠ wr.heap.size := by omega
      have zX1 : wr.heap.size < wv.heap.size + 1 := by omega
      by_cases h6 : m / 567 = 6
      · skip
        have hn3 := HN2.out
        rw [show payS k m = ⟨(0, 0, 0), true, k, m / 567 % 2⟩ by unfold payS; rw [if_pos h6]] at hn3
        have HN3 := Lib.hid hn3
        have hb6 : (m / 567 == 6) = true := by simpa using h6
        clear hn3 h6 HN2
        have KS : Below wr.heap.size wr (((wv.setCell ⟨wr.heap.size, 7, none⟩ (.bool true))).alloc (.cells #[.int .i64 s, .int .i64 s', .int .i64 dd, .int .i64 dd', .int .i64 0, .int .i64 0, .int .i64 0, .bool true, .int .i64 k, .int .i64 (m / 567 % 2)] 59)) := by repeat (first | with_reducible exact Below.refl _ _ | with_reducible assumption | with_reducible refine below_drewN ?_ _ | with_reducible refine Below.drew ?_ | with_reducible refine below_alloc ?_ _ | (with_reducible refine Below.setCell ?_ ?_ _; rotate_left; ((try simp only); omega)))
        have rXS : Blk (wv.setCell ⟨wr.heap.size, 7, none⟩ (.bool true)) wr.heap.size 59 #[.int .i64 s, .int .i64 s', .int .i64 dd, .int .i64 dd', .int .i64 0, .int .i64 0, .int .i64 0, .bool true, .int .i64 k, .int .i64 (m / 567 % 2)] := by repeat (first | with_reducible exact rX | with_reducible exact Blk.new _ _ _ | (with_reducible refine Blk.newAt _ _ _ _ ?_; first | rfl | (simp; done)) | with_reducible apply Blk.alloc | with_reducible apply Blk.drewN | with_reducible apply Blk.drew | with_reducible apply Blk.set_to | (with_reducible apply Blk.far_; (simp only [ne_eq]; omega)) | rfl)
        have rAS : Blk (wv.setCell ⟨wr.heap.size, 7, none⟩ (.bool true)) w1.heap.size 24 #[.int .i64 s, .int .i64 s'] := by repeat (first | with_reducible exact rA | with_reducible exact Blk.new _ _ _ | (with_reducible refine Blk.newAt _ _ _ _ ?_; first | rfl | (simp; done)) | with_reducible apply Blk.alloc | with_reducible apply Blk.drewN | with_reducible apply Blk.drew | with_reducible apply Blk.set_to | (with_reducible apply Blk.far_; (simp only [ne_eq]; omega)) | rfl)
        have hwv : Hid (wv.heap.size = ((wv.setCell ⟨wr.heap.size, 7, none⟩ (.bool true))).heap.size) := Lib.hid (by simp [World.setCell])
        have hownS := own_call hown KS
        go_wp2_with (at_builtin; (refine wpList_append_any _ rfl (.tmp 66) (.tmp 68) 22 rfl (w1.heap.size + 1) 59 i0 _ 10 80 Try.underlying22 hi0 hz0 hz1 hz2 rfl (by omega) (.slice A3 k c3) k (csE (voiceS k l)) rfl hownS (wv.heap.size + 1) (some ⟨wv.heap.size, 0, none⟩) 1 1 (csE [⟨(s, s'), (dd, dd'), (0, 0, 0), true, k, m / 567 % 2⟩]) rfl (Reads.newAt _ _ _ 1 10 _ hwv.out rfl) (one_csE _) (by simp only [maxLen]; omega) (by omega) (by have := KS.size; omega) ?_); intro v6 w6 hown6 hg6 hat6; have r6 := Blk.grown_ (rXS.alloc _) hg6 hbaseX; have a6 := Blk.grown_ (rAS.alloc _) hg6 hbase; have D6 := Blk.grown_ (rD0.kept KS) hg6 hbaseD; have c6 := r6.cell; have e6 := a6.cell; have y6 := r6.lt; have z6 := a6.lt)
        have K6 : Below w.heap.size w w6 := (below_call k2 KS).grown hg6 (by have := KS.size; omega) (fun j hj => by have := (hown.lt j hj).1; omega)
        rw [← csE_append, show voiceS k l ++ [(⟨(s, s'), (dd, dd'), (0, 0, 0), true, k, m / 567 % 2⟩ : Ev)] = voiceS (k + 1) l from HN3.out.symm] at hown6
        refine (HP2.out _).mono ?_
        rintro e w7 ⟨rfl, hb7⟩
        have a7 := a6.kept hb7; have D7 := D6.kept hb7
        have c7 := a7.cell; have z7 := a7.lt; have f7 := a7.frozen
        have K7 := below_call K6 hb7
        have hown7 := own_call hown6 hb7
        go_wp2_with fail
        go_roundw
        case rel =>
          refine ⟨k + 1, by omega, by go_num, own_far (own_far hown7 (by simp)) (by simp), by repeat (first | with_reducible exact Below.refl _ _ | with_reducible assumption | with_reducible refine below_drewN ?_ _ | with_reducible refine Below.drew ?_ | with_reducible refine below_alloc ?_ _ | (with_reducible refine Below.setCell ?_ ?_ _; rotate_left; ((try simp only); omega))), ?_, ?_⟩
          · repeat (first | with_reducible exact D7 | with_reducible exact Blk.new _ _ _ | (with_reducible refine Blk.newAt _ _ _ _ ?_; first | rfl | (simp; done)) | with_reducible apply Blk.alloc | with_reducible apply Blk.drewN | with_reducible apply Blk.drew | with_reducible apply Blk.set_to | (with_reducible apply Blk.far_; (simp only [ne_eq]; omega)) | rfl)
          · rw [HS.out]
            repeat (first | with_reducible exact a7 | with_reducible exact Blk.new _ _ _ | (with_reducible refine Blk.newAt _ _ _ _ ?_; first | rfl | (simp; done)) | with_reducible apply Blk.alloc | with_reducible apply Blk.drewN | with_reducible apply Blk.drew | with_reducible apply Blk.set_to | (with_reducible apply Blk.far_; (simp only [ne_eq]; omega)) | rfl)
        case measure => simp [intOf]; omega
      · skip
        have hn3 := HN2.out
        rw [show payS k m = ⟨(m % 7, 3 + m / 7 % 3, m / 21 % 3 - 1), false, k, m / 567 % 2⟩ by unfold payS; rw [if_neg h6]] at hn3
        have HN3 := Lib.hid hn3
        have hb6 : (m / 567 == 6) = false := by simpa using h6
        clear hn3 h6 HN2
        have KS : Below wr.heap.size wr (((((wv.setCell ⟨wr.heap.size, 4, none⟩ (.int .i64 (m % 7))).setCell ⟨wr.heap.size, 5, none⟩ (.int .i64 (3 + m / 7 % 3))).setCell ⟨wr.heap.size, 6, none⟩ (.int .i64 (m / 21 % 3 - 1)))).alloc (.cells #[.int .i64 s, .int .i64 s', .int .i64 dd, .int .i64 dd', .int .i64 (m % 7), .int .i64 (3 + m / 7 % 3), .int .i64 (m / 21 % 3 - 1), .bool false, .int .i64 k, .int .i64 (m / 567 % 2)] 59)) := by repeat (first | with_reducible exact Below.refl _ _ | with_reducible assumption | with_reducible refine below_drewN ?_ _ | with_reducible refine Below.drew ?_ | with_reducible refine below_alloc ?_ _ | (with_reducible refine Below.setCell ?_ ?_ _; rotate_left; ((try simp only); omega)))
        have rXS : Blk (((wv.setCell ⟨wr.heap.size, 4, none⟩ (.int .i64 (m % 7))).setCell ⟨wr.heap.size, 5, none⟩ (.int .i64 (3 + m / 7 % 3))).setCell ⟨wr.heap.size, 6, none⟩ (.int .i64 (m / 21 % 3 - 1))) wr.heap.size 59 #[.int .i64 s, .int .i64 s', .int .i64 dd, .int .i64 dd', .int .i64 (m % 7), .int .i64 (3 + m / 7 % 3), .int .i64 (m / 21 % 3 - 1), .bool false, .int .i64 k, .int .i64 (m / 567 % 2)] := by repeat (first | with_reducible exact rX | with_reducible exact Blk.new _ _ _ | (with_reducible refine Blk.newAt _ _ _ _ ?_; first | rfl | (simp; done)) | with_reducible apply Blk.alloc | with_reducible apply Blk.drewN | with_reducible apply Blk.drew | with_reducible apply Blk.set_to | (with_reducible apply Blk.far_; (simp only [ne_eq]; omega)) | rfl)
        have rAS : Blk (((wv.setCell ⟨wr.heap.size, 4, none⟩ (.int .i64 (m % 7))).setCell ⟨wr.heap.size, 5, none⟩ (.int .i64 (3 + m / 7 % 3))).setCell ⟨wr.heap.size, 6, none⟩ (.int .i64 (m / 21 % 3 - 1))) w1.heap.size 24 #[.int .i64 s, .int .i64 s'] := by repeat (first | with_reducible exact rA | with_reducible exact Blk.new _ _ _ | (with_reducible refine Blk.newAt _ _ _ _ ?_; first | rfl | (simp; done)) | with_reducible apply Blk.alloc | with_reducible apply Blk.drewN | with_reducible apply Blk.drew | with_reducible apply Blk.set_to | (with_reducible apply Blk.far_; (simp only [ne_eq]; omega)) | rfl)
        have hwv : Hid (wv.heap.size = ((((wv.setCell ⟨wr.heap.size, 4, none⟩ (.int .i64 (m % 7))).setCell ⟨wr.heap.size, 5, none⟩ (.int .i64 (3 + m / 7 % 3))).setCell ⟨wr.heap.size, 6, none⟩ (.int .i64 (m / 21 % 3 - 1)))).heap.size) := Lib.hid (by simp [World.setCell])
        have hownS := own_call hown KS
        go_wp2_with (at_builtin; (refine wpList_append_any _ rfl (.tmp 66) (.tmp 68) 22 rfl (w1.heap.size + 1) 59 i0 _ 10 80 Try.underlying22 hi0 hz0 hz1 hz2 rfl (by omega) (.slice A3 k c3) k (csE (voiceS k l)) rfl hownS (wv.heap.size + 1) (some ⟨wv.heap.size, 0, none⟩) 1 1 (csE [⟨(s, s'), (dd, dd'), (m % 7, 3 + m / 7 % 3, m / 21 % 3 - 1), false, k, m / 567 % 2⟩]) rfl (Reads.newAt _ _ _ 1 10 _ hwv.out rfl) (one_csE _) (by simp only [maxLen]; omega) (by omega) (by have := KS.size; omega) ?_); intro v6 w6 hown6 hg6 hat6; have r6 := Blk.grown_ (rXS.alloc _) hg6 hbaseX; have a6 := Blk.grown_ (rAS.alloc _) hg6 hbase; have D6 := Blk.grown_ (rD0.kept KS) hg6 hbaseD; have c6 := r6.cell; have e6 := a6.cell; have y6 := r6.lt; have z6 := a6.lt)
        have K6 : Below w.heap.size w w6 := (below_call k2 KS).grown hg6 (by have := KS.size; omega) (fun j hj => by have := (hown.lt j hj).1; omega)
        rw [← csE_append, show voiceS k l ++ [(⟨(s, s'), (dd, dd'), (m % 7, 3 + m / 7 % 3, m / 21 % 3 - 1), false, k, m / 567 % 2⟩ : Ev)] = voiceS (k + 1) l from HN3.out.symm] at hown6
        refine (HP2.out _).mono ?_
        rintro e w7 ⟨rfl, hb7⟩
        have a7 := a6.kept hb7; have D7 := D6.kept hb7
        have c7 := a7.cell; have z7 := a7.lt; have f7 := a7.frozen
        have K7 := below_call K6 hb7
        have hown7 := own_call hown6 hb7
        go_wp2_with fail
        go_roundw
        case rel =>
          refine ⟨k + 1, by omega, by go_num, own_far (own_far hown7 (by simp)) (by simp), by repeat (first | with_reducible exact Below.refl _ _ | with_reducible assumption | with_reducible refine below_drewN ?_ _ | with_reducible refine Below.drew ?_ | with_reducible refine below_alloc ?_ _ | (with_reducible refine Below.setCell ?_ ?_ _; rotate_left; ((try simp only); omega))), ?_, ?_⟩
          · repeat (first | with_reducible exact D7 | with_reducible exact Blk.new _ _ _ | (with_reducible refine Blk.newAt _ _ _ _ ?_; first | rfl | (simp; done)) | with_reducible apply Blk.alloc | with_reducible apply Blk.drewN | with_reducible apply Blk.drew | with_reducible apply Blk.set_to | (with_reducible apply Blk.far_; (simp only [ne_eq]; omega)) | rfl)
          · rw [HS.out]
            repeat (first | with_reducible exact a7 | with_reducible exact Blk.new _ _ _ | (with_reducible refine Blk.newAt _ _ _ _ ?_; first | rfl | (simp; done)) | with_reducible apply Blk.alloc | with_reducible apply Blk.drewN | with_reducible apply Blk.drew | with_reducible apply Blk.set_to | (with_reducible apply Blk.far_; (simp only [ne_eq]; omega)) | rfl)
        case measure => simp [intOf]; omega
    · obtain ⟨A3, c3, rfl, ho3⟩ := ownE_form hown
      have hkk : k = min most n := by omega
      have hts : voiceS k l = voiceS most l := by
        unfold voiceS
        rw [hkk]
        have := HL.out
        congr 2
        rcases Nat.le_total most n with h1 | h1
        · rw [Nat.min_eq_left h1]
        · rw [Nat.min_eq_right h1, List.take_of_length_le (by omega), List.take_of_length_le (by omega)]
      rw [hts] at ho3
      have e2 := HL2.out
      rw [← hkk] at e2
      by_cases hkm : k < most
      · have hkm' : (k : Int) < (most : Int) := by omega
        have hkn : k = n := by omega
        clear hkk e2
        subst hkn
        have e3 : (voiceS most l).length = k := by rw [HL2.out]; omega
        have E3 := Lib.hid e3; clear e3
        go_wp2
        go_ret
        rw [E3.out]
        exact ⟨_, _, rfl, ho3.lower (by omega), k2⟩
      · have hkm' : (most : Int) ≤ (k : Int) := by omega
        have E3 := Lib.hid e2; clear e2 hkk
        go_wp2
        all_goals
          go_ret
          rw [E3.out]
          exact ⟨_, _, rfl, ho3.lower (by omega), k2⟩
end Go.Proofs.Ytiphacmmglohaaa
