/- Parts of the proof of LawRounds31: FiRFind, FiRLead, FiRLeadW. -/
import Derived.Test.YtpkmiegccfhpnaaGreatDoorR20
set_option maxRecDepth 100000
set_option maxHeartbeats 16000000
namespace Go.Proofs.YtpkmiegccfhpnaaGreatDoor
open Go.RowKit
theorem lay3x {W w' : World} {row : Option Nat} {t : TypeId} {cs : Array Value} {G : Prop} (hg : W.grownBy w' row) (g : Nat) (hB : Blk W g t cs) (hne : some g ≠ row) (k : Blk w' g t cs → G) : G := k ((hg.block g hB.lt hne).trans hB)
theorem lit_cad (w : World) (base g : Nat) (hg : g = w.heap.size) (hb : base ≤ w.heap.size) : (w.alloc (.cells #[] 126)).ownsRow base 126 7 (.slice (some ⟨g, 0, none⟩) 0 0) 0 [] := by
 subst hg; exact World.ownsRow_lit w #[] 0 hb (by simp [maxLen]) rfl
theorem one_x7 {x0 x1 x2 x3 x4 x5 x6 : Int} : ∀ u ∈ ([.int .i64 x0, .int .i64 x1, .int .i64 x2, .int .i64 x3, .int .i64 x4, .int .i64 x5, .int .i64 x6] : List Value), u.oneCell' = true := by
 intro u hu
 simp at hu
 rcases hu with rfl | rfl | rfl | rfl | rfl | rfl | rfl <;> rfl
theorem seven {w : World} {b o : Nat} {x : Cad} (h : ∀ j u, (cCad x)[j]? = some u → w.cell? ⟨b, o + j, none⟩ = some u) :
  w.cell? ⟨b, o, none⟩ = some (.int .i64 x.at_.1) ∧ w.cell? ⟨b, o + 1, none⟩ = some (.int .i64 x.at_.2) ∧ w.cell? ⟨b, o + 2, none⟩ = some (.int .i64 x.c) ∧ w.cell? ⟨b, o + 3, none⟩ = some (.int .i64 x.t) ∧ w.cell? ⟨b, o + 4, none⟩ = some (.int .i64 x.b) ∧ w.cell? ⟨b, o + 5, none⟩ = some (.int .i64 x.step) ∧ w.cell? ⟨b, o + 6, none⟩ = some (.int .i64 x.kind) :=
 ⟨h 0 _ rfl, h 1 _ rfl, h 2 _ rfl, h 3 _ rfl, h 4 _ rfl, h 5 _ rfl, h 6 _ rfl⟩
theorem rfind_ok {w : World} (A : Option Addr) (n c0 : Nat) (l : List (List Ev)) (B : Nat) (hV : ReadsV w B A n l) (hB : B ≤ w.heap.size) (hl : SetV l) :
  Calls Tryz.prog 91 #[.slice A n c0] w fun e w' => RFindRet l w e w' := by
 obtain ⟨i0, hi0, hz0, hz1, hz2⟩ := info_parts cadence_info
 have qc := rchk30_ok A n c0 l B hV hB hl
 have HV := Lib.hid hV
 have HL := Lib.hid hV.len
 have HS := Lib.hid hl
 have hn8 : n ≤ 8 := by have := hV.len; have := hl.len; omega
 clear hV hl
 go_enter Tryz.func91, Tryz.ntmps91
 go_wp2_with fail
 refine qc.mono ?_
 rintro e w1 ⟨rfl, k1⟩
 clear qc
 go_wp2_with fail
 go_loopg [5, 6, 7, 8, 9, 10, 11, 12] n (fun gh u cc _ _ _ _ _ _ wr => ∃ c : Nat, c + gh = n ∧ cc = .int .i64 (c : Int) ∧ FndSt l w.heap.size w wr u c 0 0 0)
 case atStart => exact ⟨0, by omega, by simp, ⟨[], ⟨rfl, .inl ⟨rfl, rfl⟩⟩, CadsQ.start l, by simp, k1⟩⟩
 case round =>
  obtain ⟨c, hcg, rfl, hF⟩ := hrel
  have wc : IntKind.i64.wrap ((c : Int) + 1) = (c : Int) + 1 := IntWalk.i64_in _ (by omega)
  cases gk with
  | zero =>
   have d0 : ¬ ((c : Int) < (n : Int)) := by omega
   have hX := Lib.hid (hF.ret (by have := HL.out; omega) (by omega))
   clear hcg hF
   go_wp2
   refine ret_of (by simp [results, Tryz.results91, go_sem, *]; repeat' (first | rfl | apply And.intro)) rfl hX.out
  | succ gk1 =>
   have hcn : c < n := by omega
   have d0 : (c : Int) < (n : Int) := by omega
   obtain ⟨v, hv⟩ := get_some (l := l) (k := c) (by have := HL.out; omega)
   have hfv := HS.out.few v (List.mem_of_getElem? hv)
   have HVC := Lib.hid hv
   have HG := Lib.hid (getD_at hv)
   obtain ⟨b, ob, A1, n1, c1, hA, hab, cv, -, -, hvn⟩ := HV.out.voice hB (Below.refl _ _) hcn hv
   subst hA
   have hn1 : n1 ≤ 2000 := by omega
   have HVN := Lib.hid hvn
   clear hv hfv hvn
   obtain ⟨wo, hwo⟩ : ∃ z, z = wr := ⟨_, rfl⟩
   subst hwo
   go_wp2_with fail
   go_loopg [5, 7, 8, 9, 10, 11, 12] n1 (fun gh u ii _ _ _ _ _ wr => ∃ i : Nat, i + gh = n1 ∧ ii = .int .i64 (i : Int) ∧ FndSt l w.heap.size w wr u c i 0 0)
   case atStart => exact ⟨0, by omega, by simp, hF⟩
   case round =>
    clear hF
    obtain ⟨i, hig, rfl, hF⟩ := hrel
    have kr := hF.blw
    have cvr := (kr.cell (p := ⟨b, ob + c, none⟩) hab).trans cv
    have lbr : b < wr.heap.size := by have := kr.size; omega
    have wi : IntKind.i64.wrap ((i : Int) + 1) = (i : Int) + 1 := IntWalk.i64_in _ (by omega)
    cases gk with
    | zero =>
     have d1 : ¬ ((i : Int) < (n1 : Int)) := by omega
     have hX := Lib.hid (hF.endI (by rw [HG.out, HVN.out]; omega) (by omega))
     clear hig hF kr
     go_wp2
     go_roundg gk1
     case measure => omega
     case rel => exact ⟨c + 1, by omega, by go_num, hX.out⟩
    | succ gk2 =>
     have hin : i < n1 := by omega
     have d1 : (i : Int) < (n1 : Int) := by omega
     obtain ⟨x, hx⟩ := get_some (l := v) (k := i) (by have := HVN.out; omega)
     have HX := Lib.hid hx
     clear hx kr
     obtain ⟨wo2, hwo⟩ : ∃ z, z = wr := ⟨_, rfl⟩
     subst hwo
     go_wp2_with fail
     go_loopg [5, 8, 9, 10, 11, 12] n (fun gh u tt _ _ _ _ wr => ∃ t : Nat, t + gh = n ∧ tt = .int .i64 (t : Int) ∧ FndSt l w.heap.size w wr u c i t 0)
     case atStart => exact ⟨0, by omega, by simp, hF⟩
     case round =>
      clear hF cvr lbr
      obtain ⟨t, htg, rfl, hF⟩ := hrel
      have wt : IntKind.i64.wrap ((t : Int) + 1) = (t : Int) + 1 := IntWalk.i64_in _ (by omega)
      cases gk with
      | zero =>
       have d2 : ¬ ((t : Int) < (n : Int)) := by omega
       have hX := Lib.hid (hF.endT (by have := HL.out; omega) (by omega))
       clear htg hF
       go_wp2
       go_roundg gk2
       case measure => omega
       case rel => exact ⟨i + 1, by omega, by go_num, hX.out⟩
      | succ gk3 =>
       have htn : t < n := by omega
       have d2 : (t : Int) < (n : Int) := by omega
       obtain ⟨u2, hu⟩ := get_some (l := l) (k := t) (by have := HL.out; omega)
       have hfu := HS.out.few u2 (List.mem_of_getElem? hu)
       have HUC := Lib.hid hu
       have HGU := Lib.hid (getD_at hu)
       obtain ⟨b2, ob2, A2, n2, c2, hA, -, cu, -, -, hun⟩ := HV.out.voice hB (Below.refl _ _) htn hu
       cases hA
       have hn2 : n2 ≤ 2000 := by omega
       have HUN := Lib.hid hun
       clear hu hfu hun
       obtain ⟨wo3, hwo⟩ : ∃ z, z = wr := ⟨_, rfl⟩
       subst hwo
       go_wp2_with fail
       go_loopg [5, 9, 10, 11, 12] n2 (fun gh u kk _ _ _ wr => ∃ k : Nat, k + gh = n2 ∧ kk = .int .i64 (k : Int) ∧ FndSt l w.heap.size w wr u c i t k)
       case atStart => exact ⟨0, by omega, by simp, hF⟩
       case round =>
        clear hF
        obtain ⟨k, hkg, rfl, hF⟩ := hrel
        have kr := hF.blw
        have cur := (kr.cell (p := ⟨b, ob + t, none⟩) hab).trans cu
        have lbr : b < wr.heap.size := by have := kr.size; omega
        have wk : IntKind.i64.wrap ((k : Int) + 1) = (k : Int) + 1 := IntWalk.i64_in _ (by omega)
        cases gk with
        | zero =>
         have d3 : ¬ ((k : Int) < (n2 : Int)) := by omega
         have hX := Lib.hid (hF.endK (by rw [HGU.out, HUN.out]; omega) (by omega))
         clear hkg hF kr
         go_wp2
         go_roundg gk3
         case measure => omega
         case rel => exact ⟨t + 1, by omega, by go_num, hX.out⟩
        | succ gk4 =>
         have hkn : k < n2 := by omega
         have d3 : (k : Int) < (n2 : Int) := by omega
         obtain ⟨y, hy⟩ := get_some (l := u2) (k := k) (by have := HUN.out; omega)
         have qd := rcad_ok (some ⟨b, ob, none⟩) n c0 l B (HV.out.below hB kr) (Nat.le_trans hB kr.size) HS.out HVC.out HUC.out HX.out hy
         clear hy
         obtain ⟨isb, hisb⟩ : ∃ z, z = CadAt l c i t k := ⟨_, rfl⟩
         have HIS := Lib.hid hisb
         clear hisb
         go_wp2_with fail
         refine qd.mono ?_
         rintro e w5 ⟨⟨⟨x0, x1⟩, x2, x3, x4, x5, x6⟩, rfl, hhit, b5⟩
         have HHIT := Lib.hid hhit
         have hF5 := hF.call b5
         have hFS := Lib.hid (hF5.alloc (.cells #[.int .i64 x0, .int .i64 x1, .int .i64 x2, .int .i64 x3, .int .i64 x4, .int .i64 x5, .int .i64 x6] 126))
         clear hF qd hhit kr cur lbr
         rw [← HIS.out]
         cases isb with
         | false =>
          have hX := Lib.hid (hFS.out.skip HIS.out.symm)
          go_wp2
          go_roundg gk4
          case measure => omega
          case rel => exact ⟨k + 1, by omega, by go_num, hX.out⟩
         | true =>
          have HYES := Lib.hid HIS.out.symm
          obtain ⟨cs, how, hcq, hle, hbl⟩ := hFS.out
          clear hFS hF5
          obtain ⟨wx, hwx⟩ : ∃ z, z = w5.alloc (.cells #[.int .i64 x0, .int .i64 x1, .int .i64 x2, .int .i64 x3, .int .i64 x4, .int .i64 x5, .int .i64 x6] 126) := ⟨_, rfl⟩
          have BX : Blk wx w5.heap.size 126 #[.int .i64 x0, .int .i64 x1, .int .i64 x2, .int .i64 x3, .int .i64 x4, .int .i64 x5, .int .i64 x6] := by rw [hwx]; exact Blk.new _ _ _
          go_wp2_with fail
          rw [← hwx] at how hbl ⊢
          clear hwx
          obtain ⟨gx, hgx⟩ : ∃ z, z = w5.heap.size := ⟨_, rfl⟩
          rw [← hgx] at BX ⊢
          clear hgx b5
          obtain ⟨A5, c5, hu5, hRO, hnc, -⟩ := own_reads how
          subst hu5
          obtain ⟨N, hN⟩ : ∃ z, z = cs.length := ⟨_, rfl⟩
          rw [← hN] at how hRO hnc hle ⊢
          have hNs : N ≤ 300000000 := by omega
          have HN := Lib.hid hN
          have HNC := Lib.hid hnc
          have HCQ := Lib.hid hcq
          have HLE := Lib.hid hle
          have HKX := Lib.hid hbl
          have HRO := Lib.hid hRO
          have HBX := Lib.hid BX
          clear hN hnc hcq hle hbl hRO BX how
          go_loopg [12] N (fun gh a wr => ∃ q : Nat, q + gh = N ∧ a = .int .i64 (q : Int) ∧ Below wx.heap.size wx wr)
          case atStart => exact ⟨0, by omega, by simp, Below.refl _ _⟩
          case round =>
           obtain ⟨q, hqg, rfl, ky⟩ := hrel
           obtain ⟨wz, hwz⟩ : ∃ z, z = wr := ⟨_, rfl⟩
           subst hwz
           have wq : IntKind.i64.wrap ((q : Int) + 1) = (q : Int) + 1 := IntWalk.i64_in _ (by omega)
           have Bz := HBX.out.kept ky
           have lgx := Bz.lt
           have z0 := Bz.cell 0
           have z1 := Bz.cell 1
           have z2 := Bz.cell 2
           have z3 := Bz.cell 3
           have z4 := Bz.cell 4
           have z5 := Bz.cell 5
           have z6 := Bz.cell 6
           simp only [List.getElem?_toArray, List.getElem?_cons_zero, List.getElem?_cons_succ] at z0 z1 z2 z3 z4 z5 z6
           clear Bz
           have hRO := (HRO.out.below (Nat.le_refl _) ky).more ky.size
           cases gk with
           | zero =>
            have d4 : ¬ ((q : Int) < (N : Int)) := by omega
            have d4' : decide (q < N) = false := decide_eq_false (by omega)
            have d4b : decide ((q : Int) < (N : Int)) = false := decide_eq_false (by omega)
            go_wp2_with fail
            refine wp_region_calm (by kernel_rfl) (by kernel_rfl) ?_
            repeat (go_big_quiet_step (fail))
            refine wpQuiet_nil ?_
            intro w6 g6
            have kz := below_call ky g6
            clear ky z0 z1 z2 z3 z4 z5 z6 lgx hRO g6
            obtain ⟨wz, hwz⟩ : ∃ z, z = w6 := ⟨_, rfl⟩
            subst hwz
            have hRO := (HRO.out.below (Nat.le_refl _) kz).more kz.size
            have Bz := HBX.out.kept kz
            have lgx := Bz.lt
            have z0 := Bz.cell 0
            have z1 := Bz.cell 1
            have z2 := Bz.cell 2
            have z3 := Bz.cell 3
            have z4 := Bz.cell 4
            have z5 := Bz.cell 5
            have z6 := Bz.cell 6
            simp only [List.getElem?_toArray, List.getElem?_cons_zero, List.getElem?_cons_succ] at z0 z1 z2 z3 z4 z5 z6
            clear Bz
            have hRH : Reads wz wz.heap.size 7 A5 q (csCad (cs.take q)) := by rw [csCad_take]; exact hRO.head_part q (by omega)
            have hRT : Reads wz wz.heap.size 7 (pa A5 q c5 7) (N - q) (csCad (cs.drop q)) := by rw [csCad_drop]; exact hRO.tail_part q c5 (by omega) HNC.out
            have s1 := fun W => run_part_h Tryz.underlying122 hi0 hz1 A5 N c5 q (by have := HNC.out; omega) W
            have s2 := fun W => run_part_l Tryz.underlying122 hi0 hz1 A5 N c5 q (by omega) W
            go_wp2_with fail
            go_region_held3 (fun w' => w'.cell? ⟨gx, 0, none⟩ = some (.int .i64 x0) ∧ w'.cell? ⟨gx, 1, none⟩ = some (.int .i64 x1) ∧ w'.cell? ⟨gx, 2, none⟩ = some (.int .i64 x2) ∧ w'.cell? ⟨gx, 3, none⟩ = some (.int .i64 x3) ∧ w'.cell? ⟨gx, 4, none⟩ = some (.int .i64 x4) ∧ w'.cell? ⟨gx, 5, none⟩ = some (.int .i64 x5) ∧ w'.cell? ⟨gx, 6, none⟩ = some (.int .i64 x6) ∧ Below wz.heap.size wz w') ((refine (fun hb => ⟨(hb.cell (p := ⟨_, _, none⟩) lgx).trans z0, (hb.cell (p := ⟨_, _, none⟩) lgx).trans z1, (hb.cell (p := ⟨_, _, none⟩) lgx).trans z2, (hb.cell (p := ⟨_, _, none⟩) lgx).trans z3, (hb.cell (p := ⟨_, _, none⟩) lgx).trans z4, (hb.cell (p := ⟨_, _, none⟩) lgx).trans z5, (hb.cell (p := ⟨_, _, none⟩) lgx).trans z6, hb⟩) ?_; repeat (first | with_reducible (first | exact Below.refl _ _ | exact hB3 | exact hB4 | exact hB5 | exact (show _ ∧ _ ∧ _ ∧ _ ∧ _ ∧ _ ∧ _ ∧ Below wz.heap.size wz _ by assumption).2.2.2.2.2.2.2 | refine Below.drew ?_ | refine below_alloc ?_ _)))) ((first | ((refine step_guard (.tmp 73) (.tmp 76) 122 (.slice (some ⟨wz.heap.size, 0, none⟩) 0 0) ?_ ?_ ?_); (focus rfl); (focus rfl); (refine step_append_any _ (by rfl) (.tmp 73) (.tmp 76) 122 (by rfl) wz.heap.size 126 i0 _ 7 56 Tryz.underlying122 hi0 hz0 hz1 hz2 rfl (by omega) (.slice (some ⟨wz.heap.size, 0, none⟩) 0 0) 0 [] (by rfl) (own_call (World.ownsRow_lit wz #[] 0 (Nat.le_refl _) (by simp [maxLen]) rfl) (by (repeat (first | with_reducible (first | exact Below.refl _ _ | refine Below.drew ?_ | refine below_drewN ?_ _ | refine below_alloc ?_ _))); done)) _ A5 q c5 (csCad (cs.take q)) (by rfl) (hRH.below (Nat.le_refl _) (show _ ∧ _ ∧ _ ∧ _ ∧ _ ∧ _ ∧ _ ∧ Below wz.heap.size wz _ by assumption).2.2.2.2.2.2.2) (one_csCad _) (by simp only [maxLen]; omega) (by omega) ((show _ ∧ _ ∧ _ ∧ _ ∧ _ ∧ _ ∧ _ ∧ Below wz.heap.size wz _ by assumption).2.2.2.2.2.2.2).size ?_); intro v1 w3 hown3 hg3 hat3; have hB3 : Below wz.heap.size wz w3 := Below.grown (B := wz.heap.size) (a := wz) (show _ ∧ _ ∧ _ ∧ _ ∧ _ ∧ _ ∧ _ ∧ Below wz.heap.size wz _ by assumption).2.2.2.2.2.2.2 hg3 (by first | exact ((show _ ∧ _ ∧ _ ∧ _ ∧ _ ∧ _ ∧ _ ∧ Below wz.heap.size wz _ by assumption).2.2.2.2.2.2.2).size) (fun z hz => by simp [Value.ownBlock] at hz; omega); simp only [Nat.zero_add, List.nil_append] at hown3; (try (refine lay3x hg3 (wz.heap.size) (t := 126) (cs := #[.int .i64 x0, .int .i64 x1, .int .i64 x2, .int .i64 x3, .int .i64 x4, .int .i64 x5, .int .i64 x6]) ?_ ?_ ?_; (focus ((repeat (first | with_reducible exact Blk.new _ _ _ | (with_reducible refine Blk.newAt _ _ _ _ ?_; first | rfl | (simp; done)) | with_reducible (first | apply Blk.alloc | apply Blk.drewN | apply Blk.drew | assumption))); done)); (focus (simp [Value.ownBlock]; done)); intro hbB)); (try (refine lay3x hg3 (wz.heap.size + 1) (t := 126) (cs := #[.int .i64 x0, .int .i64 x1, .int .i64 x2, .int .i64 x3, .int .i64 x4, .int .i64 x5, .int .i64 x6]) ?_ ?_ ?_; (focus ((repeat (first | with_reducible exact Blk.new _ _ _ | (with_reducible refine Blk.newAt _ _ _ _ ?_; first | rfl | (simp; done)) | with_reducible (first | apply Blk.alloc | apply Blk.drewN | apply Blk.drew | assumption))); done)); (focus (simp [Value.ownBlock]; done)); intro hbB))) | ((refine step_guard (.tmp 73) (.tmp 76) 122 (.slice (some ⟨wz.heap.size + 1, 0, none⟩) 0 0) ?_ ?_ ?_); (focus rfl); (focus rfl); (refine step_append_any _ (by rfl) (.tmp 73) (.tmp 76) 122 (by rfl) wz.heap.size 126 i0 _ 7 56 Tryz.underlying122 hi0 hz0 hz1 hz2 rfl (by omega) (.slice (some ⟨wz.heap.size + 1, 0, none⟩) 0 0) 0 [] (by rfl) (own_call (lit_cad (wz.alloc (.cells #[.int .i64 x0, .int .i64 x1, .int .i64 x2, .int .i64 x3, .int .i64 x4, .int .i64 x5, .int .i64 x6] 126)) wz.heap.size (wz.heap.size + 1) (by simp) (by simp)) (by (repeat (first | with_reducible (first | exact Below.refl _ _ | refine Below.drew ?_ | refine below_drewN ?_ _ | refine below_alloc ?_ _))); done)) _ A5 q c5 (csCad (cs.take q)) (by rfl) (hRH.below (Nat.le_refl _) (show _ ∧ _ ∧ _ ∧ _ ∧ _ ∧ _ ∧ _ ∧ Below wz.heap.size wz _ by assumption).2.2.2.2.2.2.2) (one_csCad _) (by simp only [maxLen]; omega) (by omega) ((show _ ∧ _ ∧ _ ∧ _ ∧ _ ∧ _ ∧ _ ∧ Below wz.heap.size wz _ by assumption).2.2.2.2.2.2.2).size ?_); intro v1 w3 hown3 hg3 hat3; have hB3 : Below wz.heap.size wz w3 := Below.grown (B := wz.heap.size) (a := wz) (show _ ∧ _ ∧ _ ∧ _ ∧ _ ∧ _ ∧ _ ∧ Below wz.heap.size wz _ by assumption).2.2.2.2.2.2.2 hg3 (by first | exact ((show _ ∧ _ ∧ _ ∧ _ ∧ _ ∧ _ ∧ _ ∧ Below wz.heap.size wz _ by assumption).2.2.2.2.2.2.2).size) (fun z hz => by simp [Value.ownBlock] at hz; omega); simp only [Nat.zero_add, List.nil_append] at hown3; (try (refine lay3x hg3 (wz.heap.size) (t := 126) (cs := #[.int .i64 x0, .int .i64 x1, .int .i64 x2, .int .i64 x3, .int .i64 x4, .int .i64 x5, .int .i64 x6]) ?_ ?_ ?_; (focus ((repeat (first | with_reducible exact Blk.new _ _ _ | (with_reducible refine Blk.newAt _ _ _ _ ?_; first | rfl | (simp; done)) | with_reducible (first | apply Blk.alloc | apply Blk.drewN | apply Blk.drew | assumption))); done)); (focus (simp [Value.ownBlock]; done)); intro hbB)); (try (refine lay3x hg3 (wz.heap.size + 1) (t := 126) (cs := #[.int .i64 x0, .int .i64 x1, .int .i64 x2, .int .i64 x3, .int .i64 x4, .int .i64 x5, .int .i64 x6]) ?_ ?_ ?_; (focus ((repeat (first | with_reducible exact Blk.new _ _ _ | (with_reducible refine Blk.newAt _ _ _ _ ?_; first | rfl | (simp; done)) | with_reducible (first | apply Blk.alloc | apply Blk.drewN | apply Blk.drew | assumption))); done)); (focus (simp [Value.ownBlock]; done)); intro hbB))) | ((refine step_guard (.tmp 77) (.tmp 79) 122 v1 ?_ ?_ ?_); (focus rfl); (focus rfl); (refine step_append_any _ (by rfl) (.tmp 77) (.tmp 79) 122 (by rfl) wz.heap.size 126 i0 _ 7 56 Tryz.underlying122 hi0 hz0 hz1 hz2 rfl (by omega) v1 q (csCad (cs.take q)) (by rfl) (by first | exact hown3 | exact own_call hown3 (below_alloc (Below.refl _ _) _)) _ _ 1 1 [.int .i64 x0, .int .i64 x1, .int .i64 x2, .int .i64 x3, .int .i64 x4, .int .i64 x5, .int .i64 x6] (by rfl) (reads_one (by first | exact Blk.new _ _ _ | exact hbB) rfl rfl) one_x7 (by simp only [maxLen]; omega) (by omega) ((show _ ∧ _ ∧ _ ∧ _ ∧ _ ∧ _ ∧ _ ∧ Below wz.heap.size wz _ by assumption).2.2.2.2.2.2.2).size ?_); intro v2 w4 hown4 hg4 hat4; have hB4 : Below wz.heap.size wz w4 := Below.grown (B := wz.heap.size) (a := wz) (show _ ∧ _ ∧ _ ∧ _ ∧ _ ∧ _ ∧ _ ∧ Below wz.heap.size wz _ by assumption).2.2.2.2.2.2.2 hg4 ((show _ ∧ _ ∧ _ ∧ _ ∧ _ ∧ _ ∧ _ ∧ Below wz.heap.size wz _ by assumption).2.2.2.2.2.2.2).size (fun z hz => (hown3.lt z hz).1)) | ((refine step_guard (.tmp 80) (.tmp 83) 122 v2 ?_ ?_ ?_); (focus rfl); (focus rfl); (refine step_append_any _ (by rfl) (.tmp 80) (.tmp 83) 122 (by rfl) wz.heap.size 126 i0 _ 7 56 Tryz.underlying122 hi0 hz0 hz1 hz2 rfl (by omega) v2 (q + 1) (csCad (cs.take q) ++ [.int .i64 x0, .int .i64 x1, .int .i64 x2, .int .i64 x3, .int .i64 x4, .int .i64 x5, .int .i64 x6]) (by rfl) hown4 _ (pa A5 q c5 7) (N - q) _ (csCad (cs.drop q)) (by rfl) (hRT.below (Nat.le_refl _) (show _ ∧ _ ∧ _ ∧ _ ∧ _ ∧ _ ∧ _ ∧ Below wz.heap.size wz _ by assumption).2.2.2.2.2.2.2) (one_csCad _) (by simp only [maxLen]; omega) (by omega) ((show _ ∧ _ ∧ _ ∧ _ ∧ _ ∧ _ ∧ _ ∧ Below wz.heap.size wz _ by assumption).2.2.2.2.2.2.2).size ?_); intro v5 w5 hown5 hg5 hat5; have hB5 : Below wz.heap.size wz w5 := Below.grown (B := wz.heap.size) (a := wz) (show _ ∧ _ ∧ _ ∧ _ ∧ _ ∧ _ ∧ _ ∧ Below wz.heap.size wz _ by assumption).2.2.2.2.2.2.2 hg5 ((show _ ∧ _ ∧ _ ∧ _ ∧ _ ∧ _ ∧ _ ∧ Below wz.heap.size wz _ by assumption).2.2.2.2.2.2.2).size (fun z hz => (hown4.lt z hz).1))))
            all_goals
             have hX := Lib.hid (FndSt.puts HCQ.out HN.out (by omega) HYES.out HHIT.out HLE.out (below_call HKX.out kz) hown5 hB5)
             clear hRH hRT s1 s2 z0 z1 z2 z3 z4 z5 z6 hown5 hown4 hown3 hg3 hg4 hg5 hat3 hat4 hat5 hB3 hB4 hB5
             go_wp2_with fail
             go_roundg gk4
             case measure => omega
             case rel => exact ⟨k + 1, by omega, by go_num, hX.out⟩
           | succ gk5 =>
            have hqN : q < N := by omega
            have d4 : (q : Int) < (N : Int) := by omega
            obtain ⟨y, hy⟩ := get_some (l := cs) (k := q) (by have := HN.out; omega)
            obtain ⟨by_, oy, hA5, hby, hcy⟩ := hRO.elem (f := cCad) (fun _ => rfl) hqN hy
            subst hA5
            simp only [← Nat.add_assoc] at hcy
            obtain ⟨e0, e1, e2, e3, e4, e5, e6⟩ := seven hcy
            obtain ⟨⟨y0, y1⟩, y2, y3, y4, y5, y6⟩ := y
            simp only at e0 e1 e2 e3 e4 e5 e6
            have qb := fun W => rbef_any y0 y1 y2 y3 y4 y5 y6 x0 x1 x2 x3 x4 x5 x6 W
            obtain ⟨bb, hbb⟩ : ∃ z, z = befC y0 y1 y2 y3 x0 x1 x2 x3 := ⟨_, rfl⟩
            simp only [← hbb] at qb
            have lby : by_ < wz.heap.size := by have := ky.size; omega
            clear hy hcy hbb
            cases bb with
            | true =>
             go_wp2_with fail
             refine wp_region_calm (by kernel_rfl) (by kernel_rfl) ?_
             repeat (go_big_quiet_step ((go_at_call 127; with_reducible exact calm_call (qb _))))
             refine wpQuiet_nil ?_
             intro w6 g6
             have k6 := below_call ky g6
             clear z0 z1 z2 z3 z4 z5 z6 e0 e1 e2 e3 e4 e5 e6 g6 ky
             go_wp2
             go_roundg gk5
             case measure => omega
             case rel => exact ⟨q + 1, by omega, by go_num, k6⟩
            | false =>
             go_wp2_with fail
             refine wp_region_calm (by kernel_rfl) (by kernel_rfl) ?_
             repeat (go_big_quiet_step ((go_at_call 127; with_reducible exact calm_call (qb _))))
             refine wpQuiet_nil ?_
             intro w6 g6
             clear e0 e1 e2 e3 e4 e5 e6
             have kz := below_call ky g6
             clear ky z0 z1 z2 z3 z4 z5 z6 lgx hRO g6
             obtain ⟨wz, hwz⟩ : ∃ z, z = w6 := ⟨_, rfl⟩
             subst hwz
             have hRO := (HRO.out.below (Nat.le_refl _) kz).more kz.size
             have Bz := HBX.out.kept kz
             have lgx := Bz.lt
             have z0 := Bz.cell 0
             have z1 := Bz.cell 1
             have z2 := Bz.cell 2
             have z3 := Bz.cell 3
             have z4 := Bz.cell 4
             have z5 := Bz.cell 5
             have z6 := Bz.cell 6
             simp only [List.getElem?_toArray, List.getElem?_cons_zero, List.getElem?_cons_succ] at z0 z1 z2 z3 z4 z5 z6
             clear Bz
             have hRH : Reads wz wz.heap.size 7 (some ⟨by_, oy, none⟩) q (csCad (cs.take q)) := by rw [csCad_take]; exact hRO.head_part q (by omega)
             have hRT : Reads wz wz.heap.size 7 (pa (some ⟨by_, oy, none⟩) q c5 7) (N - q) (csCad (cs.drop q)) := by rw [csCad_drop]; exact hRO.tail_part q c5 (by omega) HNC.out
             have s1 := fun W => run_part_h Tryz.underlying122 hi0 hz1 (some ⟨by_, oy, none⟩) N c5 q (by have := HNC.out; omega) W
             have s2 := fun W => run_part_l Tryz.underlying122 hi0 hz1 (some ⟨by_, oy, none⟩) N c5 q (by omega) W
             go_wp2_with fail
             go_region_held3 (fun w' => w'.cell? ⟨gx, 0, none⟩ = some (.int .i64 x0) ∧ w'.cell? ⟨gx, 1, none⟩ = some (.int .i64 x1) ∧ w'.cell? ⟨gx, 2, none⟩ = some (.int .i64 x2) ∧ w'.cell? ⟨gx, 3, none⟩ = some (.int .i64 x3) ∧ w'.cell? ⟨gx, 4, none⟩ = some (.int .i64 x4) ∧ w'.cell? ⟨gx, 5, none⟩ = some (.int .i64 x5) ∧ w'.cell? ⟨gx, 6, none⟩ = some (.int .i64 x6) ∧ Below wz.heap.size wz w') ((refine (fun hb => ⟨(hb.cell (p := ⟨_, _, none⟩) lgx).trans z0, (hb.cell (p := ⟨_, _, none⟩) lgx).trans z1, (hb.cell (p := ⟨_, _, none⟩) lgx).trans z2, (hb.cell (p := ⟨_, _, none⟩) lgx).trans z3, (hb.cell (p := ⟨_, _, none⟩) lgx).trans z4, (hb.cell (p := ⟨_, _, none⟩) lgx).trans z5, (hb.cell (p := ⟨_, _, none⟩) lgx).trans z6, hb⟩) ?_; repeat (first | with_reducible (first | exact Below.refl _ _ | exact hB3 | exact hB4 | exact hB5 | exact (show _ ∧ _ ∧ _ ∧ _ ∧ _ ∧ _ ∧ _ ∧ Below wz.heap.size wz _ by assumption).2.2.2.2.2.2.2 | refine Below.drew ?_ | refine below_alloc ?_ _)))) ((first | ((refine step_guard (.tmp 73) (.tmp 76) 122 (.slice (some ⟨wz.heap.size, 0, none⟩) 0 0) ?_ ?_ ?_); (focus rfl); (focus rfl); (refine step_append_any _ (by rfl) (.tmp 73) (.tmp 76) 122 (by rfl) wz.heap.size 126 i0 _ 7 56 Tryz.underlying122 hi0 hz0 hz1 hz2 rfl (by omega) (.slice (some ⟨wz.heap.size, 0, none⟩) 0 0) 0 [] (by rfl) (own_call (World.ownsRow_lit wz #[] 0 (Nat.le_refl _) (by simp [maxLen]) rfl) (by (repeat (first | with_reducible (first | exact Below.refl _ _ | refine Below.drew ?_ | refine below_drewN ?_ _ | refine below_alloc ?_ _))); done)) _ (some ⟨by_, oy, none⟩) q c5 (csCad (cs.take q)) (by rfl) (hRH.below (Nat.le_refl _) (show _ ∧ _ ∧ _ ∧ _ ∧ _ ∧ _ ∧ _ ∧ Below wz.heap.size wz _ by assumption).2.2.2.2.2.2.2) (one_csCad _) (by simp only [maxLen]; omega) (by omega) ((show _ ∧ _ ∧ _ ∧ _ ∧ _ ∧ _ ∧ _ ∧ Below wz.heap.size wz _ by assumption).2.2.2.2.2.2.2).size ?_); intro v1 w3 hown3 hg3 hat3; have hB3 : Below wz.heap.size wz w3 := Below.grown (B := wz.heap.size) (a := wz) (show _ ∧ _ ∧ _ ∧ _ ∧ _ ∧ _ ∧ _ ∧ Below wz.heap.size wz _ by assumption).2.2.2.2.2.2.2 hg3 (by first | exact ((show _ ∧ _ ∧ _ ∧ _ ∧ _ ∧ _ ∧ _ ∧ Below wz.heap.size wz _ by assumption).2.2.2.2.2.2.2).size) (fun z hz => by simp [Value.ownBlock] at hz; omega); simp only [Nat.zero_add, List.nil_append] at hown3; (try (refine lay3x hg3 (wz.heap.size) (t := 126) (cs := #[.int .i64 x0, .int .i64 x1, .int .i64 x2, .int .i64 x3, .int .i64 x4, .int .i64 x5, .int .i64 x6]) ?_ ?_ ?_; (focus ((repeat (first | with_reducible exact Blk.new _ _ _ | (with_reducible refine Blk.newAt _ _ _ _ ?_; first | rfl | (simp; done)) | with_reducible (first | apply Blk.alloc | apply Blk.drewN | apply Blk.drew | assumption))); done)); (focus (simp [Value.ownBlock]; done)); intro hbB)); (try (refine lay3x hg3 (wz.heap.size + 1) (t := 126) (cs := #[.int .i64 x0, .int .i64 x1, .int .i64 x2, .int .i64 x3, .int .i64 x4, .int .i64 x5, .int .i64 x6]) ?_ ?_ ?_; (focus ((repeat (first | with_reducible exact Blk.new _ _ _ | (with_reducible refine Blk.newAt _ _ _ _ ?_; first | rfl | (simp; done)) | with_reducible (first | apply Blk.alloc | apply Blk.drewN | apply Blk.drew | assumption))); done)); (focus (simp [Value.ownBlock]; done)); intro hbB))) | ((refine step_guard (.tmp 73) (.tmp 76) 122 (.slice (some ⟨wz.heap.size + 1, 0, none⟩) 0 0) ?_ ?_ ?_); (focus rfl); (focus rfl); (refine step_append_any _ (by rfl) (.tmp 73) (.tmp 76) 122 (by rfl) wz.heap.size 126 i0 _ 7 56 Tryz.underlying122 hi0 hz0 hz1 hz2 rfl (by omega) (.slice (some ⟨wz.heap.size + 1, 0, none⟩) 0 0) 0 [] (by rfl) (own_call (lit_cad (wz.alloc (.cells #[.int .i64 x0, .int .i64 x1, .int .i64 x2, .int .i64 x3, .int .i64 x4, .int .i64 x5, .int .i64 x6] 126)) wz.heap.size (wz.heap.size + 1) (by simp) (by simp)) (by (repeat (first | with_reducible (first | exact Below.refl _ _ | refine Below.drew ?_ | refine below_drewN ?_ _ | refine below_alloc ?_ _))); done)) _ (some ⟨by_, oy, none⟩) q c5 (csCad (cs.take q)) (by rfl) (hRH.below (Nat.le_refl _) (show _ ∧ _ ∧ _ ∧ _ ∧ _ ∧ _ ∧ _ ∧ Below wz.heap.size wz _ by assumption).2.2.2.2.2.2.2) (one_csCad _) (by simp only [maxLen]; omega) (by omega) ((show _ ∧ _ ∧ _ ∧ _ ∧ _ ∧ _ ∧ _ ∧ Below wz.heap.size wz _ by assumption).2.2.2.2.2.2.2).size ?_); intro v1 w3 hown3 hg3 hat3; have hB3 : Below wz.heap.size wz w3 := Below.grown (B := wz.heap.size) (a := wz) (show _ ∧ _ ∧ _ ∧ _ ∧ _ ∧ _ ∧ _ ∧ Below wz.heap.size wz _ by assumption).2.2.2.2.2.2.2 hg3 (by first | exact ((show _ ∧ _ ∧ _ ∧ _ ∧ _ ∧ _ ∧ _ ∧ Below wz.heap.size wz _ by assumption).2.2.2.2.2.2.2).size) (fun z hz => by simp [Value.ownBlock] at hz; omega); simp only [Nat.zero_add, List.nil_append] at hown3; (try (refine lay3x hg3 (wz.heap.size) (t := 126) (cs := #[.int .i64 x0, .int .i64 x1, .int .i64 x2, .int .i64 x3, .int .i64 x4, .int .i64 x5, .int .i64 x6]) ?_ ?_ ?_; (focus ((repeat (first | with_reducible exact Blk.new _ _ _ | (with_reducible refine Blk.newAt _ _ _ _ ?_; first | rfl | (simp; done)) | with_reducible (first | apply Blk.alloc | apply Blk.drewN | apply Blk.drew | assumption))); done)); (focus (simp [Value.ownBlock]; done)); intro hbB)); (try (refine lay3x hg3 (wz.heap.size + 1) (t := 126) (cs := #[.int .i64 x0, .int .i64 x1, .int .i64 x2, .int .i64 x3, .int .i64 x4, .int .i64 x5, .int .i64 x6]) ?_ ?_ ?_; (focus ((repeat (first | with_reducible exact Blk.new _ _ _ | (with_reducible refine Blk.newAt _ _ _ _ ?_; first | rfl | (simp; done)) | with_reducible (first | apply Blk.alloc | apply Blk.drewN | apply Blk.drew | assumption))); done)); (focus (simp [Value.ownBlock]; done)); intro hbB))) | ((refine step_guard (.tmp 77) (.tmp 79) 122 v1 ?_ ?_ ?_); (focus rfl); (focus rfl); (refine step_append_any _ (by rfl) (.tmp 77) (.tmp 79) 122 (by rfl) wz.heap.size 126 i0 _ 7 56 Tryz.underlying122 hi0 hz0 hz1 hz2 rfl (by omega) v1 q (csCad (cs.take q)) (by rfl) (by first | exact hown3 | exact own_call hown3 (below_alloc (Below.refl _ _) _)) _ _ 1 1 [.int .i64 x0, .int .i64 x1, .int .i64 x2, .int .i64 x3, .int .i64 x4, .int .i64 x5, .int .i64 x6] (by rfl) (reads_one (by first | exact Blk.new _ _ _ | exact hbB) rfl rfl) one_x7 (by simp only [maxLen]; omega) (by omega) ((show _ ∧ _ ∧ _ ∧ _ ∧ _ ∧ _ ∧ _ ∧ Below wz.heap.size wz _ by assumption).2.2.2.2.2.2.2).size ?_); intro v2 w4 hown4 hg4 hat4; have hB4 : Below wz.heap.size wz w4 := Below.grown (B := wz.heap.size) (a := wz) (show _ ∧ _ ∧ _ ∧ _ ∧ _ ∧ _ ∧ _ ∧ Below wz.heap.size wz _ by assumption).2.2.2.2.2.2.2 hg4 ((show _ ∧ _ ∧ _ ∧ _ ∧ _ ∧ _ ∧ _ ∧ Below wz.heap.size wz _ by assumption).2.2.2.2.2.2.2).size (fun z hz => (hown3.lt z hz).1)) | ((refine step_guard (.tmp 80) (.tmp 83) 122 v2 ?_ ?_ ?_); (focus rfl); (focus rfl); (refine step_append_any _ (by rfl) (.tmp 80) (.tmp 83) 122 (by rfl) wz.heap.size 126 i0 _ 7 56 Tryz.underlying122 hi0 hz0 hz1 hz2 rfl (by omega) v2 (q + 1) (csCad (cs.take q) ++ [.int .i64 x0, .int .i64 x1, .int .i64 x2, .int .i64 x3, .int .i64 x4, .int .i64 x5, .int .i64 x6]) (by rfl) hown4 _ (pa (some ⟨by_, oy, none⟩) q c5 7) (N - q) _ (csCad (cs.drop q)) (by rfl) (hRT.below (Nat.le_refl _) (show _ ∧ _ ∧ _ ∧ _ ∧ _ ∧ _ ∧ _ ∧ Below wz.heap.size wz _ by assumption).2.2.2.2.2.2.2) (one_csCad _) (by simp only [maxLen]; omega) (by omega) ((show _ ∧ _ ∧ _ ∧ _ ∧ _ ∧ _ ∧ _ ∧ Below wz.heap.size wz _ by assumption).2.2.2.2.2.2.2).size ?_); intro v5 w5 hown5 hg5 hat5; have hB5 : Below wz.heap.size wz w5 := Below.grown (B := wz.heap.size) (a := wz) (show _ ∧ _ ∧ _ ∧ _ ∧ _ ∧ _ ∧ _ ∧ Below wz.heap.size wz _ by assumption).2.2.2.2.2.2.2 hg5 ((show _ ∧ _ ∧ _ ∧ _ ∧ _ ∧ _ ∧ _ ∧ Below wz.heap.size wz _ by assumption).2.2.2.2.2.2.2).size (fun z hz => (hown4.lt z hz).1))))
             all_goals
              have hX := Lib.hid (FndSt.puts HCQ.out HN.out (by omega) HYES.out HHIT.out HLE.out (below_call HKX.out kz) hown5 hB5)
              clear hRH hRT s1 s2 z0 z1 z2 z3 z4 z5 z6 hown5 hown4 hown3 hg3 hg4 hg5 hat3 hat4 hat5 hB3 hB4 hB5
              go_wp2_with fail
              go_roundg gk4
              case measure => omega
              case rel => exact ⟨k + 1, by omega, by go_num, hX.out⟩
def HitC (l : List (List Ev)) (x : Cad) (p : Plc) : Prop := x.kind = 3 ∧ x.c = p.1 ∧ x.at_ = atOf (l.getD p.1.toNat []) (p.2.toNat + 1)
structure LdIn (l : List (List Ev)) (pre : List Cad) (L : List Plc) : Prop where
 sound : ∀ p ∈ L, leadB l p = true
 full : ∀ x ∈ pre, ∀ p, leadB l p = true → HitC l x p → p ∈ L
structure LdR (l : List (List Ev)) (pre : List Cad) (x : Cad) (e : Nat) (L : List Plc) : Prop where
 base : LdIn l pre L
 here : ∀ p, leadB l p = true → HitC l x p → p.2.toNat + 1 < e → p ∈ L
theorem lead_parts {l : List (List Ev)} {p : Plc} (h : leadB l p = true) : freeB l p = true ∧ weakB l p.1.toNat (p.2.toNat + 1) = true ∧ (ivl (l.getD p.1.toNat []) (p.2.toNat + 1)).2 = 2 := by
 unfold leadB at h
 simp only [Bool.and_eq_true, decide_eq_true_eq] at h
 exact h
theorem weak_cad {l : List (List Ev)} {c i : Nat} (h : weakB l c i = true) : ∃ t k, CadAt l c i t k = true ∧ cadK l c i t k = 3 := by
 unfold weakB at h
 simp only [List.any_eq_true, List.mem_range, Bool.and_eq_true, decide_eq_true_eq] at h
 obtain ⟨t, _, k, _, h1, h2⟩ := h
 exact ⟨t, k, h1, h2⟩
theorem lead_in {l : List (List Ev)} {p : Plc} (h : leadB l p = true) : p.2.toNat + 1 < (l.getD p.1.toNat []).length ∧ noteB (l.getD p.1.toNat []) (p.2.toNat + 1) = true ∧ noteB (l.getD p.1.toNat []) p.2.toNat = true := by
 obtain ⟨_, h2, _⟩ := lead_parts h
 obtain ⟨t, k, h3, _⟩ := weak_cad h2
 obtain ⟨_, h4, _⟩ := cad_parts h3
 obtain ⟨_, g2, g3, g4, _⟩ := clK_ne (v := l.getD p.1.toNat []) (i := p.2.toNat + 1) (by omega)
 exact ⟨g4, g3, by simpa using g2⟩
theorem LdIn.nil_ (l : List (List Ev)) : LdIn l [] [] := ⟨fun _ h => (by cases h), fun _ h => (by cases h)⟩
theorem LdR.start {l : List (List Ev)} {pre : List Cad} {L : List Plc} (h : LdIn l pre L) (x : Cad) : LdR l pre x 1 L := ⟨h, fun _ _ _ h => by omega⟩
theorem LdIn.off {l : List (List Ev)} {pre : List Cad} {L : List Plc} (h : LdIn l pre L) {x : Cad} (hx : x.kind ≠ 3) : LdIn l (pre ++ [x]) L :=
 ⟨h.sound, fun y hy p h1 h2 => by
  rcases List.mem_append.1 hy with hy | hy
  ·exact h.full y hy p h1 h2
  ·rw [List.mem_singleton.1 hy] at h2; exact absurd h2.1 hx⟩
theorem LdR.done {l : List (List Ev)} {pre : List Cad} {x : Cad} {e : Nat} {L : List Plc} (h : LdR l pre x e L) (he : ∀ p : Plc, p.1 = x.c → (l.getD p.1.toNat []).length ≤ e) : LdIn l (pre ++ [x]) L :=
 ⟨h.base.sound, fun y hy p h1 h2 => by
  rcases List.mem_append.1 hy with hy | hy
  ·exact h.base.full y hy p h1 h2
  ·rw [List.mem_singleton.1 hy] at h2
   have := (lead_in h1).1
   have := he p h2.2.1.symm
   exact h.here p h1 h2 (by omega)⟩
theorem LdR.skip {l : List (List Ev)} {pre : List Cad} {x : Cad} {c j : Nat} {L : List Plc} (h : LdR l pre x (j + 1) L) (hc : x.c = (c : Int)) (hno : HitC l x ((c : Int), (j : Int)) → leadB l ((c : Int), (j : Int)) = true → False) : LdR l pre x (j + 1 + 1) L :=
 ⟨h.base, fun p h1 h2 h3 => by
  by_cases e : p.2.toNat + 1 < j + 1
  ·exact h.here p h1 h2 e
  ·exfalso
   have hp : p = ((c : Int), (j : Int)) := by
    obtain ⟨i', j', v, e1, _⟩ := mem_plc.1 (free_plc (lead_free h1))
    rw [e1] at h2 h3 e ⊢
    have := h2.2.1
    simp only at this h3 e
    rw [Prod.mk.injEq]
    omega
   rw [hp] at h1 h2
   exact hno h2 h1⟩
theorem LdR.put {l : List (List Ev)} {pre : List Cad} {x : Cad} {c j : Nat} {L : List Plc} (h : LdR l pre x (j + 1) L) (hc : x.c = (c : Int)) (hl : leadB l ((c : Int), (j : Int)) = true) : LdR l pre x (j + 1 + 1) (L ++ [((c : Int), (j : Int))]) :=
 ⟨⟨fun p hp => by
   rcases List.mem_append.1 hp with hp | hp
   ·exact h.base.sound p hp
   ·rw [List.mem_singleton.1 hp]; exact hl, fun y hy p h1 h2 => List.mem_append_left _ (h.base.full y hy p h1 h2)⟩,
  fun p h1 h2 h3 => by
  by_cases e : p.2.toNat + 1 < j + 1
  ·exact List.mem_append_left _ (h.here p h1 h2 e)
  ·refine List.mem_append_right _ (List.mem_singleton.2 ?_)
   obtain ⟨i', j', v, e1, _⟩ := mem_plc.1 (free_plc (lead_free h1))
   rw [e1] at h2 h3 e ⊢
   have := h2.2.1
   simp only at this h3 e
   rw [Prod.mk.injEq]
   omega⟩
theorem LdIn.all_ {l : List (List Ev)} {cs : List Cad} {L : List Plc} (h : LdIn l cs L) (hf : ∀ c i t k, CadAt l c i t k = true → ∃ x ∈ cs, Hit l c i t k x) (p : Plc) : p ∈ L ↔ leadB l p = true :=
 ⟨h.sound p, fun hp => by
  obtain ⟨_, h2, _⟩ := lead_parts hp
  obtain ⟨t, k, h3, h4⟩ := weak_cad h2
  obtain ⟨x, hx, g1, g2, g3⟩ := hf _ _ _ _ h3
  obtain ⟨i', j', v, e1, _⟩ := mem_plc.1 (free_plc (lead_free hp))
  refine h.full x hx p hp ⟨by rw [g3, h4], ?_, g1⟩
  rw [g2, e1]
  simp⟩
theorem lead_is {l : List (List Ev)} (hv : ∀ v ∈ l, Val v) {x : Cad} {c j : Nat} (hx : CadOK l x) (hk : x.kind = 3) (hc : x.c = (c : Int)) (ha : x.at_ = atOf (l.getD c []) (j + 1)) (hj : j + 1 < (l.getD c []).length) (hf : freeB l ((c : Int), (j : Int)) = true) (h2 : (ivl (l.getD c []) (j + 1)).2 = 2) : leadB l ((c : Int), (j : Int)) = true := by
 unfold leadB
 rw [hf]
 simp only [Int.toNat_natCast, Bool.true_and, Bool.and_eq_true, decide_eq_true_eq]
 exact ⟨(weak_iff hv hj).2 ⟨x, hx, hk, hc, ha⟩, h2⟩
def LeadRet (base g : Nat) (A : Option Addr) (n c : Nat) (A2 : Option Addr) (m c2 : Nat) (l : List (List Ev)) (T : List Fic) (w : World) (e : Ending) (w' : World) : Prop :=
 ∃ L, (∀ p, p ∈ L ↔ leadB l p = true) ∧ AddRet base g A n c A2 m c2 l T (addsL l T 1 1 [] L) w e w'
theorem rlead_ok {w : World} {base g n c m c2 : Nat} {A A2 : Option Addr} {l : List (List Ev)} {T : List Fic} (h : FSt w base g A n c A2 m c2 l T []) (hm : m ≤ 1000000) (hl : SetV l) :
  Calls Tryz.prog 67 #[.pointer (some ⟨g, 0, none⟩)] w fun e w' => LeadRet base g A n c A2 m c2 l T w e w' := by
 have hLN := h.rV.len
 have hn8 : n ≤ 8 := by have := hl.len; omega
 have HLN := Lib.hid hLN
 have HSL := Lib.hid hl
 have HH := Lib.hid h
 have HBB := Lib.hid h.hb
 have qf := rfind_ok A n c l base h.rV h.hb hl
 obtain ⟨c0, lg⟩ := h.cells_
 clear h hl hLN
 go_enter Tryz.func67, Tryz.ntmps67
 go_wp2_with fail
 refine qf.mono ?_
 rintro e w1 ⟨v, cs, rfl, how, hsd, hfl, hfew, hb1⟩
 have inv0 : RI base g A n c A2 m c2 l T (addsL l T 1 1 [] []) w1 w1 := ⟨HH.out.call hb1, .refl _, Below.refl _ _⟩
 obtain ⟨S, cS, rfl, -, -, -⟩ := own_reads how
 obtain ⟨N, hN⟩ : ∃ z, z = cs.length := ⟨_, rfl⟩
 rw [← hN] at how hfew ⊢
 have HO := Lib.hid how
 have HN := Lib.hid hN
 have HSD := Lib.hid hsd
 have HFL := Lib.hid hfl
 have HB1 := Lib.hid hb1
 clear qf how hb1 c0 lg hN hsd hfl
 go_wp2_with fail
 go_loopg [4, 5, 6, 7, 8] N (fun gh i _ _ _ _ wr => ∃ (k : Nat) (L : List Plc), k + gh = N ∧ i = .int .i64 (k : Int) ∧ LdIn l (cs.take k) L ∧ RI base g A n c A2 m c2 l T (addsL l T 1 1 [] L) w1 wr)
 case atStart => exact ⟨0, [], by omega, by simp, LdIn.nil_ l, inv0⟩
 case round =>
  clear inv0
  obtain ⟨k, L, hkg, rfl, hld, inv⟩ := hrel
  have wk : IntKind.i64.wrap ((k : Int) + 1) = (k : Int) + 1 := IntWalk.i64_in _ (by omega)
  cases gk with
  | zero =>
   have hk : k = N := by omega
   have d0 : ¬ ((k : Int) < (N : Int)) := by omega
   have HX := Lib.hid (show LeadRet base g A n c A2 m c2 l T w (.returned (.tuple #[])) wr from ⟨L, LdIn.all_ (by rwa [List.take_of_length_le (by rw [← HN.out, hk]; exact Nat.le_refl _)] at hld) HFL.out, (inv.ret (.tuple #[])).after HB1.out HBB.out⟩)
   clear inv hk hkg hld
   go_wp2
   refine bodyPost_end (results_none rfl _ _ _) rfl ?_
   exact HX.out
  | succ gh =>
   have hkN : k < N := by omega
   have d0 : (k : Int) < (N : Int) := by omega
   obtain ⟨x, hx⟩ := get_some (l := cs) (k := k) (by have := HN.out; omega)
   have HT := Lib.hid (take_get hx)
   have HCK := Lib.hid (HSD.out x (List.mem_of_getElem? hx))
   have hS := own_keepT HO.out inv.kt (by decide) (by decide)
   obtain ⟨S', cS', e1, hRO, -, -⟩ := own_reads hS
   obtain ⟨rfl, rfl⟩ : S' = S ∧ cS' = cS := by cases e1; exact ⟨rfl, rfl⟩
   obtain ⟨bs, os, hSA, hbs, hcx⟩ := hRO.elem (f := cCad) (fun _ => rfl) hkN hx
   subst hSA
   simp only [← Nat.add_assoc] at hcx
   obtain ⟨z0, z1, z2, z3, z4, z5, z6⟩ := seven hcx
   have HLD := Lib.hid hld
   have HXX := Lib.hid hx
   clear hx hS hRO hcx e1 hld
   by_cases hk3 : x.kind = 3
   ·obtain ⟨cc, i0, t0, k0, hca, hat0, hcc, -, -⟩ := HCK.out
    have hcl := (cad_lt hca).1
    have hcn : cc < n := by have := HLN.out; omega
    obtain ⟨v, hv⟩ := get_some (l := l) (k := cc) hcl
    have HVL := Lib.hid hv
    have hv2 := HSL.out.few v (List.mem_of_getElem? hv)
    have HP := Lib.hid (HSL.out.pits v (List.mem_of_getElem? hv))
    have HG := Lib.hid (getD_at hv)
    obtain ⟨lv, hlv⟩ : ∃ z, z = v.length := ⟨_, rfl⟩
    have HLV := Lib.hid hlv
    have kb : (x.kind != 3) = false := by simp [hk3]
    have HK3 := Lib.hid hk3
    have HCC := Lib.hid hcc
    rw [hcc] at z2
    have HI := Lib.hid inv
    obtain ⟨g0, lg⟩ := inv.st.cells_
    clear hv hk3 hca hat0 hcc hcl hlv inv
    obtain ⟨wo, hwo⟩ : ∃ z, z = wr := ⟨_, rfl⟩
    subst hwo
    go_wp2_with fail
    go_loopg [6, 7, 8] lv (fun gh2 i _ _ wr => ∃ (j : Nat) (L2 : List Plc), j + gh2 = lv ∧ i = .int .i64 (((j + 1 : Nat)) : Int) ∧ LdR l (cs.take k) x (j + 1) L2 ∧ RI base g A n c A2 m c2 l T (addsL l T 1 1 [] L2) w1 wr)
    case atStart => exact ⟨0, L, by omega, by simp, LdR.start HLD.out x, HI.out⟩
    case round =>
     clear HI g0 lg z0 z1 z2 z3 z4 z5 z6 hbs
     obtain ⟨j, L2, hjg, rfl, hlr, inv⟩ := hrel
     obtain ⟨g0, lg⟩ := inv.st.cells_
     obtain ⟨bv, ov, A', n', c', hAA, hbv, cv, rv, -, hvn⟩ := inv.st.rV.voice inv.st.hb (Below.refl _ _) hcn HVL.out
     obtain rfl : n' = lv := by rw [HLV.out]; exact hvn.symm
     rw [hAA] at g0
     have HLR := Lib.hid hlr
     clear hAA hlr
     by_cases hlt : j + 1 < n'
     ·obtain ⟨e, he⟩ : ∃ z, z = j + 1 := ⟨_, rfl⟩
      obtain ⟨a, ha⟩ := get_some (l := v) (k := j) (by omega)
      obtain ⟨b, hb⟩ := get_some (l := v) (k := j + 1) (by omega)
      obtain ⟨bx, ox, hA', hbx, hca⟩ := rv.ev inv.st.hb (Below.refl _ _) (show j < n' by omega) ha
      obtain ⟨bx', ox', hA'', -, hcb⟩ := rv.ev inv.st.hb (Below.refl _ _) (show j + 1 < n' by omega) hb
      obtain ⟨rfl, rfl⟩ : bx' = bx ∧ ox' = ox := by rw [hA'] at hA''; cases hA''; exact ⟨rfl, rfl⟩
      subst hA'
      have hS := own_keepT HO.out inv.kt (by decide) (by decide)
      obtain ⟨S', cS', e1, hRO, -, -⟩ := own_reads hS
      have hx := HXX.out
      obtain ⟨bs', os', hSA, hbs, hcx⟩ := hRO.elem (f := cCad) (fun _ => rfl) hkN hx
      obtain ⟨rfl, rfl⟩ : bs' = bs ∧ os' = os := by cases e1; cases hSA; exact ⟨rfl, rfl⟩
      simp only [← Nat.add_assoc] at hcx
      obtain ⟨z0, z1, -, -, -, -, -⟩ := seven hcx
      rw [← he] at hcb
      obtain ⟨_, _, _, _, x4, x5, x6, x7, _, _⟩ := ten hca
      obtain ⟨y0, y1, _, _, y4, y5, y6, y7, _, _⟩ := ten hcb
      have l1 : (j : Int) < (n' : Int) := by omega
      have l2 : (e : Int) < (n' : Int) := by omega
      have a1 : (e : Int) - 1 = (j : Int) := by omega
      have a3 : IntKind.i64.wrap (j : Int) = (j : Int) := IntWalk.i64_in _ (by omega)
      have we : IntKind.i64.wrap ((e : Int) + 1) = (e : Int) + 1 := IntWalk.i64_in _ (by omega)
      have HJ := Lib.hid he
      have HAT := Lib.hid (show atOf (l.getD cc []) (j + 1) = b.at_ by rw [HG.out]; unfold atOf; rw [hb])
      have HIV := Lib.hid (show ivl (l.getD cc []) (j + 1) = btw a.pit b.pit by rw [HG.out]; unfold ivl; rw [Nat.add_sub_cancel, ha, hb])
      have HNA := Lib.hid (show leadB l ((cc : Int), (j : Int)) = true → a.rest = false ∧ b.rest = false from fun h => by
       obtain ⟨_, h2, h3⟩ := lead_in h
       simp only [Int.toNat_natCast] at h2 h3
       rw [HG.out] at h2 h3
       rw [vn2 ha] at h3
       rw [vn2 hb] at h2
       exact ⟨by simpa using h3, by simpa using h2⟩)
      have HIN := Lib.hid (show j + 1 < (l.getD cc []).length by rw [HG.out, ← HLV.out]; exact hlt)
      have HPA := Lib.hid (HP.out a (List.mem_of_getElem? ha))
      have HPB := Lib.hid (HP.out b (List.mem_of_getElem? hb))
      have HEA := Lib.hid (evA_nat HVL.out ha)
      have HI2 := Lib.hid inv
      clear hS e1 hRO hx hSA hcx hca hcb ha hb rv hvn hA'' he inv
      rw [← HJ.out]
      obtain ⟨⟨b0, b1⟩, _, ⟨q0, q1, q2⟩, rb, _, _⟩ := b
      obtain ⟨_, _, ⟨p0, p1, p2⟩, ra, _, _⟩ := a
      simp only at x4 x5 x6 x7 y0 y1 y4 y5 y6 y7 HAT HIV HNA HPA HPB
      obtain ⟨xa0, hxa0⟩ : ∃ z, z = x.at_.1 := ⟨_, rfl⟩
      obtain ⟨xa1, hxa1⟩ : ∃ z, z = x.at_.2 := ⟨_, rfl⟩
      rw [← hxa0] at z0
      rw [← hxa1] at z1
      have HXA := Lib.hid (show x.at_ = (xa0, xa1) by rw [hxa0, hxa1])
      clear hxa0 hxa1
      by_cases e1 : b0 = xa0
      ·have f1 : (b0 == xa0) = true := by simp [e1]
       by_cases e2 : b1 = xa1
       ·have f2 : (b1 == xa1) = true := by simp [e2]
        have HEQ := Lib.hid (show x.at_ = atOf (l.getD cc []) (j + 1) by rw [HXA.out, HAT.out, e1, e2])
        clear e1 e2
        cases rb with
        | true =>
         have HX := Lib.hid (LdR.skip HLR.out HCC.out (fun _ h => by have := (HNA.out h).2; cases this))
         clear HLR
         go_wp2_with fail
         refine wp_region_calm (by kernel_rfl) (by kernel_rfl) ?_
         repeat (go_big_quiet_step (fail))
         refine wpQuiet_nil ?_
         intro w7 g7
         have HI7 := Lib.hid (HI2.out.call g7)
         clear g7 g0 lg z0 z1 cv hbv hbx hbs x4 x5 x6 x7 y0 y1 y4 y5 y6 y7
         go_wp2
         go_roundg (gk - 1)
         case measure => omega
         case rel => exact ⟨j + 1, L2, by omega, congrArg (Value.int .i64) (by have := HJ.out; omega), HX.out, HI7.out⟩
        | false =>
         cases ra with
         | true =>
          have HX := Lib.hid (LdR.skip HLR.out HCC.out (fun _ h => by have := (HNA.out h).1; cases this))
          clear HLR
          go_wp2_with fail
          refine wp_region_calm (by kernel_rfl) (by kernel_rfl) ?_
          repeat (go_big_quiet_step (fail))
          refine wpQuiet_nil ?_
          intro w7 g7
          have HI7 := Lib.hid (HI2.out.call g7)
          clear g7 g0 lg z0 z1 cv hbv hbx hbs x4 x5 x6 x7 y0 y1 y4 y5 y6 y7
          go_wp2
          go_roundg (gk - 1)
          case measure => omega
          case rel => exact ⟨j + 1, L2, by omega, congrArg (Value.int .i64) (by have := HJ.out; omega), HX.out, HI7.out⟩
         | false =>
          go_wp2_with fail
          refine wp_region_calm (by kernel_rfl) (by kernel_rfl) ?_
          repeat (go_big_quiet_step (fail))
          refine wpQuiet_nil ?_
          intro w7 g7
          have I7 := Lib.hid (HI2.out.call g7)
          replace g0 := (g7.cell (p := ⟨g, 0, none⟩) lg).trans g0
          replace cv := (g7.cell (p := ⟨bv, ov + cc, none⟩) hbv).trans cv
          replace x4 := (g7.cell (p := ⟨bx', ox' + j * 10 + 4, none⟩) hbx).trans x4
          replace x5 := (g7.cell (p := ⟨bx', ox' + j * 10 + 5, none⟩) hbx).trans x5
          replace x6 := (g7.cell (p := ⟨bx', ox' + j * 10 + 6, none⟩) hbx).trans x6
          replace y4 := (g7.cell (p := ⟨bx', ox' + e * 10 + 4, none⟩) hbx).trans y4
          replace y5 := (g7.cell (p := ⟨bx', ox' + e * 10 + 5, none⟩) hbx).trans y5
          replace y6 := (g7.cell (p := ⟨bx', ox' + e * 10 + 6, none⟩) hbx).trans y6
          replace lg : g < w7.heap.size := Nat.lt_of_lt_of_le lg g7.size
          replace hbv : bv < w7.heap.size := Nat.lt_of_lt_of_le hbv g7.size
          replace hbx : bx' < w7.heap.size := Nat.lt_of_lt_of_le hbx g7.size
          clear g7 z0 z1 y0 y1 x7 y7 hbs HI2
          obtain ⟨wq, hwq⟩ : ∃ z, z = w7 := ⟨_, rfl⟩
          subst hwq
          have qa := fun W => rbtw_ok (p0, p1, p2) (q0, q1, q2) (HPA.out (by simp)) (HPB.out (by simp)) W
          simp only [vP] at qa
          obtain ⟨⟨st, hh⟩, hst⟩ : ∃ z, z = btw (p0, p1, p2) (q0, q1, q2) := ⟨_, rfl⟩
          simp only [← hst] at qa HIV
          have HHH := Lib.hid (show (ivl (l.getD cc []) (j + 1)).2 = hh by rw [HIV.out])
          clear hst HIV
          go_wp2_with fail
          go_region_held3 (fun w' => w'.cell? ⟨g, 0, none⟩ = some (.slice (some ⟨bv, ov, none⟩) n c) ∧ w'.cell? ⟨bv, ov + cc, none⟩ = some (.slice (some ⟨bx', ox', none⟩) n' c') ∧ w'.cell? ⟨bx', ox' + j * 10 + 4, none⟩ = some (.int .i64 p0) ∧ w'.cell? ⟨bx', ox' + j * 10 + 5, none⟩ = some (.int .i64 p1) ∧ w'.cell? ⟨bx', ox' + j * 10 + 6, none⟩ = some (.int .i64 p2) ∧ w'.cell? ⟨bx', ox' + e * 10 + 4, none⟩ = some (.int .i64 q0) ∧ w'.cell? ⟨bx', ox' + e * 10 + 5, none⟩ = some (.int .i64 q1) ∧ w'.cell? ⟨bx', ox' + e * 10 + 6, none⟩ = some (.int .i64 q2) ∧ Below wq.heap.size wq w') ((refine (fun hb => ⟨(hb.cell (p := ⟨_, _, none⟩) lg).trans g0, (hb.cell (p := ⟨_, _, none⟩) hbv).trans cv, (hb.cell (p := ⟨_, _, none⟩) hbx).trans x4, (hb.cell (p := ⟨_, _, none⟩) hbx).trans x5, (hb.cell (p := ⟨_, _, none⟩) hbx).trans x6, (hb.cell (p := ⟨_, _, none⟩) hbx).trans y4, (hb.cell (p := ⟨_, _, none⟩) hbx).trans y5, (hb.cell (p := ⟨_, _, none⟩) hbx).trans y6, hb⟩) ?_; repeat (first | with_reducible (first | exact Below.refl _ _ | exact hBd | exact (show _ ∧ _ ∧ _ ∧ _ ∧ _ ∧ _ ∧ _ ∧ _ ∧ Below wq.heap.size wq _ by assumption).2.2.2.2.2.2.2.2 | refine Below.drew ?_ | refine below_alloc ?_ _) | (with_reducible refine Below.setCell ?_ ?_ _; rotate_left; (first | (show wq.heap.size ≤ wq.heap.size; omega) | (simp; omega)))))) (first | (go_at_call 92; refine Calls.mono (qa _) ?_; rintro e wd ⟨rfl, hbd⟩; have hBd := below_call (show _ ∧ _ ∧ _ ∧ _ ∧ _ ∧ _ ∧ _ ∧ _ ∧ Below wq.heap.size wq _ by assumption).2.2.2.2.2.2.2.2 hbd; try (refine lay_kept hbd (g := wq.heap.size) (t := 131) (cs := #[.int .i64 0, .int .i64 0]) ?_ ?_; (focus ((repeat (first | with_reducible (first | exact Blk.new _ _ _ | apply Blk.drewN | apply Blk.drew))); done)); intro Bi; have i0 := Bi.cell 0; have i1 := Bi.cell 1; have lI := Bi.lt; have fI := Bi.frozen)))
          all_goals
           have hB5 := (show _ ∧ _ ∧ _ ∧ _ ∧ _ ∧ _ ∧ _ ∧ _ ∧ Below wq.heap.size wq _ by assumption).2.2.2.2.2.2.2.2
           obtain ⟨wv, hwv⟩ := name_world hB5
           rw [← hwv] at hB5 ⊢
           have zd := hBd.size
           first
            | (refine pick_block (wv := wv) (lo := wq.heap.size) (t := 131) (wd.heap.size) #[.int .i64 st, .int .i64 hh] ?_ ?_ ?_; (focus omega); (focus (rw [hwv]; (repeat (first | with_reducible exact Bi | with_reducible exact Blk.new _ _ _ | (with_reducible refine Blk.newAt _ _ _ _ ?_; first | rfl | (simp; done)) | with_reducible (first | apply Blk.alloc | apply Blk.drewN | apply Blk.drew | apply Blk.set_to) | rfl)); done)); intro gi hgi lgi Bgi; rw [← hgi]; clear hgi)
            | (refine pick_block (wv := wv) (lo := wq.heap.size) (t := 131) (wq.heap.size) #[.int .i64 st, .int .i64 hh] ?_ ?_ ?_; (focus omega); (focus (rw [hwv]; (repeat (first | with_reducible exact Bi | with_reducible exact Blk.new _ _ _ | (with_reducible refine Blk.newAt _ _ _ _ ?_; first | rfl | (simp; done)) | with_reducible (first | apply Blk.alloc | apply Blk.drewN | apply Blk.drew | apply Blk.set_to) | rfl)); done)); intro gi hgi lgi Bgi; rw [← hgi]; clear hgi)
           clear hwv
           have u0 := Bgi.cell 0
           have u1 := Bgi.cell 1
           have lG := Bgi.lt
           simp only [List.getElem?_toArray, List.getElem?_cons_zero, List.getElem?_cons_succ] at u0 u1
           have Iv := I7.out.call hB5
           clear hBd hbd zd
           by_cases h2 : hh = 2
           ·have h2b : (hh == 2) = true := by simp [h2]
            have qp := radd_ok Iv.st hm (Iv.st.few HSL.out) HEA.out 1 1
            have HIv := Lib.hid Iv
            have HX := Lib.hid (show ∃ L3, LdR l (cs.take k) x (j + 1 + 1) L3 ∧ addsL l T 1 1 [] L3 = addL l T (addsL l T 1 1 [] L2) ((cc : Int), (j : Int)) 1 1 from by
             cases hfr : freeB l ((cc : Int), (j : Int)) with
             | true => exact ⟨L2 ++ [((cc : Int), (j : Int))], HLR.out.put HCC.out (lead_is HSL.out.val HCK.out HK3.out HCC.out HEQ.out HIN.out hfr (by rw [HHH.out, h2])), addsL_snoc _ _ _ _ _ _ _⟩
             | false => exact ⟨L2, HLR.out.skip HCC.out (fun _ h => by have := lead_free h; rw [hfr] at this; cases this), (addL_off hfr).symm⟩)
            clear h2 Iv HLR
            go_wp2_with fail
            refine qp.mono ?_
            rintro en w10 hret
            obtain ⟨L3, g1, g2⟩ := HX.out
            have R := Lib.hid (And.intro g1 ((HIv.out.next hret).as_ g2))
            obtain ⟨⟨z, rfl⟩, -⟩ := hret
            clear qp HIv g1 g2 HX u0 u1 lG Bgi
            go_wp2
            go_roundg (gk - 1)
            case measure => omega
            case rel => exact ⟨j + 1, L3, by omega, congrArg (Value.int .i64) (by have := HJ.out; omega), R.out.1, R.out.2⟩
           ·have h2b : (hh == 2) = false := by simp [h2]
            have HX := Lib.hid (LdR.skip HLR.out HCC.out (fun _ h => h2 (by rw [← HHH.out]; have := (lead_parts h).2.2; simpa using this)))
            have R := Lib.hid Iv
            clear h2 Iv HLR
            go_wp2
            go_roundg (gk - 1)
            case measure => omega
            case rel => exact ⟨j + 1, L2, by omega, congrArg (Value.int .i64) (by have := HJ.out; omega), HX.out, R.out⟩
       ·have f2 : (b1 == xa1) = false := by simp [e2]
        have HNH := Lib.hid (show HitC l x ((cc : Int), (j : Int)) → leadB l ((cc : Int), (j : Int)) = true → False from fun h _ => by
         have h3 := h.2.2
         simp only [Int.toNat_natCast] at h3
         rw [HAT.out, HXA.out] at h3
         exact e2 (congrArg Prod.snd h3).symm)
        clear e1 e2
        have HX := Lib.hid (LdR.skip HLR.out HCC.out HNH.out)
        clear HLR
        go_wp2_with fail
        refine wp_region_calm (by kernel_rfl) (by kernel_rfl) ?_
        repeat (go_big_quiet_step (fail))
        refine wpQuiet_nil ?_
        intro w7 g7
        have HI7 := Lib.hid (HI2.out.call g7)
        clear g7 g0 lg z0 z1 cv hbv hbx hbs x4 x5 x6 x7 y0 y1 y4 y5 y6 y7
        go_wp2
        go_roundg (gk - 1)
        case measure => omega
        case rel => exact ⟨j + 1, L2, by omega, congrArg (Value.int .i64) (by have := HJ.out; omega), HX.out, HI7.out⟩
      ·have f1 : (b0 == xa0) = false := by simp [e1]
       have HNH := Lib.hid (show HitC l x ((cc : Int), (j : Int)) → leadB l ((cc : Int), (j : Int)) = true → False from fun h _ => by
        have h3 := h.2.2
        simp only [Int.toNat_natCast] at h3
        rw [HAT.out, HXA.out] at h3
        exact e1 (congrArg Prod.fst h3).symm)
       clear e1
       have HX := Lib.hid (LdR.skip HLR.out HCC.out HNH.out)
       clear HLR
       go_wp2_with fail
       refine wp_region_calm (by kernel_rfl) (by kernel_rfl) ?_
       repeat (go_big_quiet_step (fail))
       refine wpQuiet_nil ?_
       intro w7 g7
       have HI7 := Lib.hid (HI2.out.call g7)
       clear g7 g0 lg z0 z1 cv hbv hbx hbs x4 x5 x6 x7 y0 y1 y4 y5 y6 y7
       go_wp2
       go_roundg (gk - 1)
       case measure => omega
       case rel => exact ⟨j + 1, L2, by omega, congrArg (Value.int .i64) (by have := HJ.out; omega), HX.out, HI7.out⟩
     ·have d1 : ¬ (((j + 1 : Nat) : Int) < (n' : Int)) := by omega
      obtain ⟨e, he⟩ : ∃ z, z = j + 1 := ⟨_, rfl⟩
      have HX := Lib.hid (show LdIn l (cs.take (k + 1)) L2 by
       rw [HT.out]
       refine HLR.out.done fun p hp => ?_
       rw [hp, HCC.out, Int.toNat_natCast, HG.out, ← HLV.out]
       omega)
      have d2 : ¬ ((e : Int) < (n' : Int)) := by omega
      rw [← he]
      clear rv hvn he d1 HLR
      go_wp2
      go_roundg gh
      case measure => omega
      case rel => exact ⟨k + 1, L2, by omega, by go_num, HX.out, inv⟩
   ·have kb : (x.kind != 3) = true := by simp [hk3]
    have HX := Lib.hid (show LdIn l (cs.take (k + 1)) L by rw [HT.out]; exact HLD.out.off hk3)
    clear hk3
    go_wp2
    go_roundg gh
    case measure => omega
    case rel => exact ⟨k + 1, L, by omega, by go_num, HX.out, inv⟩
end Go.Proofs.YtpkmiegccfhpnaaGreatDoor
