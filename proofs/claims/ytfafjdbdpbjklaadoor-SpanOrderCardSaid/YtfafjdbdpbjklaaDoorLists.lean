/- The walks through the functions on lists of times: the kit's copies and comparison, the reference's sum. -/
import Derived.Test.YtfafjdbdpbjklaaDoorAwake
import Derived.Test.YtfafjdbdpbjklaaDoorSlices
namespace Go.Proofs.YtfafjdbdpbjklaaDoor
open Go.RowKit
theorem time_info : (Tryd.prog.info? 23).map (fun i => (i.zero, i.size, i.bytes)) = some (some (.agg #[.int .i64 0, .int .i64 0]), 2, 16) := by kernel_rfl
theorem one_csT (l : List (Int × Int)) : ∀ u ∈ csT l, u.oneCell' = true := by
  intro u hu
  obtain ⟨t, _, ht⟩ := List.mem_flatMap.1 hu
  simp [cT] at ht
  rcases ht with rfl | rfl <;> rfl

set_option maxHeartbeats 400000 in
theorem ownTimes_any (A : Option Addr) (n c : Nat) (l : List (Int × Int)) (B : Nat) (w : World) (h : Reads w B 2 A n (csT l)) (hB : B ≤ w.heap.size) (hn : n ≤ 80) :
    Calls Tryd.prog 18 #[.slice A n c] w fun e w' => ∃ A' c', e = .returned (.slice A' n c') ∧ Reads w' w'.heap.size 2 A' n (csT l) ∧ Below w.heap.size w w' := by
  obtain ⟨i0, hi0, hz0, hz1, hz2⟩ := info_parts time_info
  go_enter Tryd.func18, Tryd.ntmps18
  go_wp2_with (at_builtin; (refine wpList_append_any _ rfl (.tmp 3) (.tmp 4) _ rfl w.heap.size 23 i0 _ 2 16 Tryd.underlying30 hi0 hz0 hz1 hz2 rfl (by omega) (.slice (some ⟨w.heap.size, 0, none⟩) 0 0) 0 [] rfl (World.ownsRow_lit w #[] 0 (Nat.le_refl _) (by simp [maxLen]) rfl) B A n c (csT l) rfl (h.below hB (below_alloc (Below.refl _ _) _)) (one_csT l) (by simp only [maxLen]; omega) (by omega) (by simp) ?_); intro v1 w1 hown1 hg1 hat1)
  go_ret
  simp only [Nat.zero_add, List.nil_append] at hown1
  obtain ⟨A', c', rfl, hr, _, _⟩ := own_reads hown1
  exact ⟨A', c', rfl, hr, (below_alloc (Below.refl _ _) _).grown hg1 (by simp) (fun k hk => by simp [Value.ownBlock] at hk; omega)⟩

/-- Two lists of times that are the same. -/
def sameT (l m : List (Int × Int)) : Bool := l == m
set_option maxHeartbeats 400000 in
theorem sameTimes_any (A A' : Option Addr) (n c c' : Nat) (l : List (Int × Int)) (B : Nat) (w : World) (h : Reads w B 2 A n (csT l)) (h' : Reads w B 2 A' n (csT l)) (hn : n ≤ 9223372036854775807) :
    Calls Tryd.prog 21 #[.slice A n c, .slice A' n c'] w fun e w' => e = .returned (.bool true) ∧ ∃ m, w' = w.drewN m := by
  have hl : l.length = n := h.len (f := cT) (fun _ => rfl) (by omega)
  have HL := Lib.hid hl; clear hl
  go_enter Tryd.func21, Tryd.ntmps21
  go_wp2
  go_loopw [5] (fun i wr => ∃ k : Nat, k ≤ n ∧ i = .int .i64 k ∧ ∃ m, wr = w.drewN m) (fun i _ => n - (intOf i).toNat)
  case atStart => exact ⟨0, by omega, rfl, 0, rfl⟩
  case round =>
    obtain ⟨k, hk, rfl, m, rfl⟩ := hrel
    by_cases hlt : k < n
    · obtain ⟨⟨p, q⟩, hx⟩ := get_some (l := l) (k := k) (by have := HL.out; omega)
      obtain ⟨b, off, rfl, hab, hc⟩ := h.elem (f := cT) (fun _ => rfl) hlt hx
      obtain ⟨b', off', rfl, hab', hc'⟩ := h'.elem (f := cT) (fun _ => rfl) hlt hx
      have c0 := hc 0 _ rfl
      have c1 := hc 1 _ rfl
      have d0 := hc' 0 _ rfl
      have d1 := hc' 1 _ rfl
      simp only [Nat.add_zero, ← Nat.add_assoc] at c0 c1 d0 d1
      clear hc hc' hx
      have hlt' : (k : Int) < (n : Int) := by omega
      go_wp2
      go_quiet (fail)
      go_wp2
      go_roundw
      case rel => exact ⟨k + 1, by omega, by go_num, _, rfl⟩
      case measure => simp [intOf]; omega
    · go_wp2
      go_ret
      exact ⟨rfl, _, rfl⟩

set_option maxRecDepth 100000 in
set_option maxHeartbeats 1000000 in
theorem refSum_any (A : Option Addr) (n c : Nat) (l : List (Int × Int)) (B : Nat) (w : World) (h : Reads w B 2 A n (csT l)) (hB : B ≤ w.heap.size) (hn : n ≤ 9223372036854775807) :
    Calls Tryd.prog 20 #[.slice A n c] w fun e w' => e = .returned (vT (sumS l)) ∧ Below w.heap.size w w' := by
  have hl : l.length = n := h.len (f := cT) (fun _ => rfl) (by omega)
  have HL := Lib.hid hl; clear hl
  go_enter Tryd.func20, Tryd.ntmps20
  go_wp2
  go_loopw [4, 5] (fun i _ wr => ∃ k : Nat, k ≤ n ∧ i = .int .i64 k ∧ Hid (firstS (l.drop k) = firstS l) ∧ Below w.heap.size w wr ∧ w.heap.size < wr.heap.size ∧ Blk wr w.heap.size 23 #[.int .i64 0, .int .i64 0]) (fun i _ _ => n - (intOf i).toNat)
  case atStart => exact ⟨0, by omega, rfl, rfl, below_alloc (Below.refl _ _) _, by simp, Blk.new _ _ _⟩
  case round =>
    obtain ⟨k, hk, rfl, hs, hb, hz, hres⟩ := hrel
    have r0 : wr.cell? ⟨w.heap.size, 0, none⟩ = some (.int .i64 0) := hres.cell 0
    have r1 : wr.cell? ⟨w.heap.size, 1, none⟩ = some (.int .i64 0) := hres.cell 1
    have rf0 := hres.frozen 0
    have rf1 := hres.frozen 1
    by_cases hlt : k < n
    · have hlt' : (k : Int) < (n : Int) := by omega
      obtain ⟨⟨p, q⟩, hx⟩ := get_some (l := l) (k := k) (by have := HL.out; omega)
      have HD := Lib.hid (drop_get hx)
      obtain ⟨b, off, rfl, hab, hc⟩ := h.elem (f := cT) (fun _ => rfl) hlt hx
      have c0 := hc 0 _ rfl
      have c1 := hc 1 _ rfl
      rw [← hb.cell (by simp; omega)] at c0 c1
      simp only [Nat.add_zero, ← Nat.add_assoc] at c0 c1
      clear hc hx
      go_wp2_with (go_at_call 16; refine (refCheck_any _ _ _).mono ?_; rintro e w1 ⟨rfl, hb1⟩; have hc1 := (bcell hb1).1; have hf1 := (bcell hb1).2)
      · refine ret_of (by simp [results, Tryd.results20, go_sem, *]; repeat' (first | rfl | apply And.intro)) rfl ⟨vT_ret ?_, ?_⟩
        · have hne : (chk p q != 0) = true := by assumption
          have e1 := hs.out
          rw [HD.out, firstS_bad (by simpa using hne)] at e1
          unfold sumS; rw [if_pos (by rw [← e1]; simpa using hne), e1]
        · repeat (first | exact Below.refl _ _ | assumption | refine below_drewN ?_ _ | refine Below.drew ?_ | refine below_alloc ?_ _ | (refine below_call ?_ (by assumption)) | (refine Below.setCell ?_ ?_ _; rotate_left; (simp; try omega)))
      · go_roundw
        case rel =>
          have hne : (chk p q != 0) = false := by assumption
          refine ⟨k + 1, by omega, by go_num, ?_, below_call hb hb1, by have := hb1.size; omega, hres.kept hb1⟩
          have e1 := hs.out
          rw [HD.out, firstS_next (by simpa using hne)] at e1
          exact e1
        case measure => simp [intOf]; omega
    · have hf : firstS l = 0 := by rw [← hs.out, List.drop_eq_nil_of_le (by have := HL.out; omega)]; rfl
      have HF := Lib.hid hf; clear hf hs
      go_wp2
      obtain ⟨wo, rfl⟩ : ∃ wo : World, wo = wr := ⟨_, rfl⟩
      go_loopw [7, 8, 9] (fun i _ _ wr => ∃ (k : Nat) (s s' : Int), k ≤ n ∧ i = .int .i64 k ∧ Hid (sumFrom (s, s') (l.drop k) = sumFrom (0, 1) l) ∧ Below wo.heap.size wo wr ∧ wo.heap.size < wr.heap.size ∧ Blk wr wo.heap.size 23 #[.int .i64 s, .int .i64 s']) (fun i _ _ _ => n - (intOf i).toNat)
      case atStart => exact ⟨0, 0, 1, by omega, rfl, rfl, (Below.refl _ _).alloc (Nat.le_refl _) _, by simp, Blk.new _ _ _⟩
      case round =>
        obtain ⟨k, s, s', hk, rfl, hs, hb2, hzr, hsum⟩ := hrel
        clear r0 r1 rf0 rf1
        have hres' := hres.kept hb2
        have s0 : wr.cell? ⟨wo.heap.size, 0, none⟩ = some (.int .i64 s) := hsum.cell 0
        have s1 : wr.cell? ⟨wo.heap.size, 1, none⟩ = some (.int .i64 s') := hsum.cell 1
        have sf0 := hsum.frozen 0
        have sf1 := hsum.frozen 1
        have r0 : wr.cell? ⟨w.heap.size, 0, none⟩ = some (.int .i64 0) := hres'.cell 0
        have r1 : wr.cell? ⟨w.heap.size, 1, none⟩ = some (.int .i64 0) := hres'.cell 1
        have rf0 := hres'.frozen 0
        have rf1 := hres'.frozen 1
        have zw : w.heap.size < wr.heap.size := by omega
        have zw' : w.heap.size < wr.heap.size + 1 := by omega
        have zr' : wo.heap.size < wr.heap.size + 1 := by omega
        have zne : wo.heap.size ≠ w.heap.size := by omega
        have hbb := below_call hb hb2
        by_cases hlt : k < n
        · have hlt' : (k : Int) < (n : Int) := by omega
          obtain ⟨⟨p, q⟩, hx⟩ := get_some (l := l) (k := k) (by have := HL.out; omega)
          have HD := Lib.hid (drop_get hx)
          obtain ⟨b, off, rfl, hab, hc⟩ := h.elem (f := cT) (fun _ => rfl) hlt hx
          have c0 := hc 0 _ rfl
          have c1 := hc 1 _ rfl
          rw [← hbb.cell (by simp; omega)] at c0 c1
          simp only [Nat.add_zero, ← Nat.add_assoc] at c0 c1
          clear hc hx
          have zb : b < wr.heap.size := by omega
          by_cases he : (addS (s, s') (p, q)).2.2 = 0
          · go_wp2_with fail
            go_region_held3 (fun w' => w'.cell? ⟨wo.heap.size, 0, none⟩ = some (.int .i64 s) ∧ w'.cell? ⟨wo.heap.size, 1, none⟩ = some (.int .i64 s') ∧ w'.cell? ⟨b, off + k * 2, none⟩ = some (.int .i64 p) ∧ w'.cell? ⟨b, off + k * 2 + 1, none⟩ = some (.int .i64 q)) (simp [go_sem, *]) (first | (go_at_call 25; refine (refAdd_any (_, _) (_, _) _).mono ?_; rintro e w2 ⟨rfl, hb3'⟩; have hb3 := below_call (w := wr) (by repeat (first | exact Below.refl _ _ | assumption | refine below_drewN ?_ _ | refine Below.drew ?_ | refine below_alloc ?_ _ | (refine below_call ?_ (by assumption)) | (refine Below.setCell ?_ ?_ _; rotate_left; (simp; try omega)))) hb3'; have hc3 := (bcell hb3).1; have hf3 := (bcell hb3).2; have hc4 := (bcell hb3').1; have hf4 := (bcell hb3').2; have zw2 := Nat.lt_of_lt_of_le zw hb3.size; have zo2 := Nat.lt_of_lt_of_le hzr hb3.size; have zb2 := Nat.lt_of_lt_of_le zb hb3.size; have hsum2 := hsum.kept hb3; have q0 := hsum2.cell 0; have q1 := hsum2.cell 1; have qf0 := hsum2.frozen 0; have qf1 := hsum2.frozen 1; have hres2 := hres'.kept hb3; have t0 := hres2.cell 0; have t1 := hres2.cell 1; have tf0 := hres2.frozen 0; have tf1 := hres2.frozen 1; clear hb3'))
            · go_wp2_with fail
              go_roundw
              case rel =>
                refine ⟨k + 1, (addS (s, s') (p, q)).1, (addS (s, s') (p, q)).2.1, by omega, by go_num, ?_, ?_, ?_, ((hsum2.set_ 0 _).set_ 1 _).alloc _⟩
                · have h1 := hs.out
                  rw [HD.out, sumFrom_next he] at h1
                  exact h1
                · repeat (first | exact Below.refl _ _ | assumption | refine below_drewN ?_ _ | refine Below.drew ?_ | refine below_alloc ?_ _ | (refine below_call ?_ (by assumption)) | (refine Below.setCell ?_ ?_ _; rotate_left; (simp; try omega)))
                · simp [World.setCell]; omega
              case measure => simp [intOf]; omega
            · go_wp2_with fail
              go_roundw
              case rel =>
                refine ⟨k + 1, (addS (s, s') (p, q)).1, (addS (s, s') (p, q)).2.1, by omega, by go_num, ?_, ?_, ?_, (((hsum2.far (show _ ≠ _ by simp only; omega) _).far (show _ ≠ _ by simp only; omega) _).set_ 0 _).set_ 1 _⟩
                · have h1 := hs.out
                  rw [HD.out, sumFrom_next he] at h1
                  exact h1
                · repeat (first | exact Below.refl _ _ | assumption | refine below_drewN ?_ _ | refine Below.drew ?_ | refine below_alloc ?_ _ | (refine below_call ?_ (by assumption)) | (refine Below.setCell ?_ ?_ _; rotate_left; (simp; try omega)))
                · simp [World.setCell]; omega
              case measure => simp [intOf]; omega
          · go_wp2_with fail
            go_region_held3 (fun w' => w'.cell? ⟨wo.heap.size, 0, none⟩ = some (.int .i64 s) ∧ w'.cell? ⟨wo.heap.size, 1, none⟩ = some (.int .i64 s') ∧ w'.cell? ⟨b, off + k * 2, none⟩ = some (.int .i64 p) ∧ w'.cell? ⟨b, off + k * 2 + 1, none⟩ = some (.int .i64 q)) (simp [go_sem, *]) (first | (go_at_call 25; refine (refAdd_any (_, _) (_, _) _).mono ?_; rintro e w2 ⟨rfl, hb3'⟩; have hb3 := below_call (w := wr) (by repeat (first | exact Below.refl _ _ | assumption | refine below_drewN ?_ _ | refine Below.drew ?_ | refine below_alloc ?_ _ | (refine below_call ?_ (by assumption)) | (refine Below.setCell ?_ ?_ _; rotate_left; (simp; try omega)))) hb3'; have hc3 := (bcell hb3).1; have hf3 := (bcell hb3).2; have hc4 := (bcell hb3').1; have hf4 := (bcell hb3').2; have zw2 := Nat.lt_of_lt_of_le zw hb3.size; have zo2 := Nat.lt_of_lt_of_le hzr hb3.size; have zb2 := Nat.lt_of_lt_of_le zb hb3.size; have hsum2 := hsum.kept hb3; have q0 := hsum2.cell 0; have q1 := hsum2.cell 1; have qf0 := hsum2.frozen 0; have qf1 := hsum2.frozen 1; have hres2 := hres'.kept hb3; have t0 := hres2.cell 0; have t1 := hres2.cell 1; have tf0 := hres2.frozen 0; have tf1 := hres2.frozen 1; clear hb3'))
            all_goals
              go_wp2_with fail
              refine ret_of (by simp [results, Tryd.results20, go_sem, *]; repeat' (first | rfl | apply And.intro)) rfl ⟨vT_ret ?_, ?_⟩
              · unfold sumS; rw [if_neg (by rw [HF.out]; exact fun h => h rfl), ← hs.out, HD.out, sumFrom_bad he]
              · repeat (first | exact Below.refl _ _ | assumption | refine below_drewN ?_ _ | refine Below.drew ?_ | refine below_alloc ?_ _ | (refine below_call ?_ (by assumption)) | (refine Below.setCell ?_ ?_ _; rotate_left; (simp; try omega)))
        · go_wp2
          refine ret_of (by simp [results, Tryd.results20, go_sem, *]; repeat' (first | rfl | apply And.intro)) rfl ⟨vT_ret ?_, ?_⟩
          · unfold sumS; rw [if_neg (by rw [HF.out]; exact fun h => h rfl), ← hs.out, List.drop_eq_nil_of_le (by have := HL.out; omega)]; rfl
          · repeat (first | exact Below.refl _ _ | assumption | refine below_drewN ?_ _ | refine Below.drew ?_ | refine below_alloc ?_ _ | (refine below_call ?_ (by assumption)) | (refine Below.setCell ?_ ?_ _; rotate_left; (simp; try omega)))
end Go.Proofs.YtfafjdbdpbjklaaDoor
