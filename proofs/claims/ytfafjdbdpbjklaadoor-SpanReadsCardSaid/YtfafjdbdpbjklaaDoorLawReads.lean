/- SpanReads holds: the text of a time is read as this time, and a text which is read is the text of its time. No condition. -/
import Derived.Test.YtfafjdbdpbjklaaDoorKnown
import Derived.Test.YtfafjdbdpbjklaaDoorTable
import Derived.Test.YtfafjdbdpbjklaaDoorReadsMath
namespace Go.Proofs.YtfafjdbdpbjklaaDoor.spanReads
open Go.ChangeShapes Go.WideShapes Go.ChangeAt Go.RowKit
set_option linter.unusedVariables false
theorem txt_len (p q : Int) (h : ok (p, q)) : (txt p q).length ≤ 50 := by
  obtain ⟨h1, h2, h3, h4, _⟩ := h
  simp only at h1 h2 h3 h4
  have l1 := Lib.itoa_length_le p (by omega) (by omega)
  have l2 := Lib.itoa_length_le q (by omega) (by omega)
  unfold txt
  split
  · omega
  · rw [List.length_append, List.length_append]; simp; omega
theorem txt_str (s : ByteArray) (l : List UInt8) (h : l = s.data.toList) : ByteArray.mk l.toArray = s := by subst h; simp
set_option maxRecDepth 100000 in
set_option maxHeartbeats 1000000 in
theorem walk_bad (n d : Int) (s : ByteArray) (w : World) (hn : n ≤ 9223372036854775807) (hd : d ≤ 9223372036854775807) (hit : ∀ m : Int, -9223372036854775808 ≤ m → m ≤ 9223372036854775807 → ItoaAt w m) (hz : (mk n d).2.2 ≠ 0) :
    Calls Tryd.prog 11 #[.int .i64 n, .int .i64 d, .string s] w fun e w' => e = .returned (.bool true) ∧ Below w.heap.size w w' := by
  obtain ⟨⟨p, q, r⟩, hm⟩ : ∃ x, x = mk n d := ⟨_, rfl⟩
  rw [← hm] at hz
  have hz' : (r == 0) = false := by simpa using hz
  clear hz
  have M := Lib.hid hm.symm; clear hm
  by_cases hl : 40 < s.size
  · have hl' : (40 : Int) < (s.size : Int) := by omega
    go_enter Tryd.func11, Tryd.ntmps11
    go_wp2_with fail
    refine (known_any _).mono ?_
    rintro e w1 ⟨rfl, hb1⟩
    have hs1 : w.heap.size ≤ w1.heap.size := by have h := hb1.size; (try simp at h); omega
    go_wp2_with fail
    refine (make_any n d _ hn hd).mono ?_
    rintro e w2 ⟨rfl, hb2⟩
    rw [M.out]
    have hs2 : w.heap.size ≤ w2.heap.size := by have h := hb2.size; (try simp at h); omega
    go_wp2_with fail
    go_ret
    refine ⟨rfl, ?_⟩
    repeat (first | exact Below.refl _ _ | assumption | refine below_drewN ?_ _ | refine Below.drew ?_ | refine below_alloc ?_ _ | (refine below_call ?_ (by assumption)) | (refine Below.setCell ?_ ?_ _; rotate_left; (simp; try omega)))
  · have hs : (s.size : Int) ≤ 9223372036854775806 := by omega
    have hl' : s.size ≤ 40 := by omega
    clear hl
    obtain ⟨b1, b2⟩ := par_back s.data.toList
    obtain ⟨⟨u, v, g⟩, hp⟩ : ∃ x, x = parS s.data.toList := ⟨_, rfl⟩
    rw [← hp] at b1 b2
    simp only at b1 b2
    have P := Lib.hid hp.symm; clear hp
    by_cases hg : g = 0
    · subst hg
      obtain ⟨hc, ht⟩ := b2 rfl
      clear b1 b2
      have hok := ok_of_chk hc
      have i1 := hit u (by have := hok.1; simp at this; omega) (by have := hok.2.1; simp at this; omega)
      have i2 := hit v (by have := hok.2.2.1; simp at this; omega) (by have := hok.2.2.2.1; simp at this; omega)
      have T := Lib.hid (show textS u v = (txt u v, 0) by unfold textS; rw [if_neg (by rw [hc]; exact fun h => h rfl)])
      have S := Lib.hid (txt_str s (txt u v) ht)
      clear hok hc ht
      go_enter Tryd.func11, Tryd.ntmps11
      go_wp2_with fail
      refine (known_any _).mono ?_
      rintro e w1 ⟨rfl, hb1⟩
      have hs1 : w.heap.size ≤ w1.heap.size := by have h := hb1.size; (try simp at h); omega
      go_wp2_with fail
      refine (make_any n d _ hn hd).mono ?_
      rintro e w2 ⟨rfl, hb2⟩
      rw [M.out]
      have hs2 : w.heap.size ≤ w2.heap.size := by have h := hb2.size; (try simp at h); omega
      go_wp2_with fail
      refine (parse_any s _ hs).mono ?_
      rintro e w3 ⟨rfl, hb3⟩
      rw [P.out]
      have hs3 : w.heap.size ≤ w3.heap.size := by have h := hb3.size; (try simp at h); omega
      go_wp2_with fail
      refine (text_any u v _ (i1.later (by repeat (first | exact Below.refl _ _ | assumption | refine below_drewN ?_ _ | refine Below.drew ?_ | refine below_alloc ?_ _ | (refine below_call ?_ (by assumption)) | (refine Below.setCell ?_ ?_ _; rotate_left; (simp; try omega))))) (i2.later (by repeat (first | exact Below.refl _ _ | assumption | refine below_drewN ?_ _ | refine Below.drew ?_ | refine below_alloc ?_ _ | (refine below_call ?_ (by assumption)) | (refine Below.setCell ?_ ?_ _; rotate_left; (simp; try omega)))))).mono ?_
      rintro e w4 ⟨rfl, hb4⟩
      rw [T.out, S.out]
      have BU4 : Blk w4 (w3.heap.size) 23 #[.int .i64 u, .int .i64 v] := by
        refine Blk.kept ?_ hb4
        repeat (first | with_reducible exact Blk.new _ _ _ | (with_reducible refine Blk.newAt _ _ _ _ ?_; first | rfl | (simp; done)) | with_reducible apply Blk.alloc | with_reducible apply Blk.drewN | with_reducible apply Blk.drew | with_reducible apply Blk.set_to | (with_reducible apply Blk.far_; (simp only [ne_eq]; omega)) | rfl)
      have cU0_4 : w4.cell? ⟨w3.heap.size, 0, none⟩ = some (.int .i64 u) := BU4.cell 0
      have cU1_4 : w4.cell? ⟨w3.heap.size, 1, none⟩ = some (.int .i64 v) := BU4.cell 1
      have lU4 : w3.heap.size < w4.heap.size := BU4.lt
      have mU4 : w3.heap.size < w4.heap.size + 1 := by omega
      have nU4 : w3.heap.size < w4.heap.size + 1 + 1 := by omega
      have hs4 : w.heap.size ≤ w4.heap.size := by have h := hb4.size; (try simp at h); omega
      go_wp2_with fail
      go_ret
      refine ⟨rfl, ?_⟩
      repeat (first | exact Below.refl _ _ | assumption | refine below_drewN ?_ _ | refine Below.drew ?_ | refine below_alloc ?_ _ | (refine below_call ?_ (by assumption)) | (refine Below.setCell ?_ ?_ _; rotate_left; (simp; try omega)))
    · obtain ⟨rfl, rfl⟩ := b1 hg
      have hg' : (g == 0) = false := by simpa using hg
      clear b1 b2 hg
      go_enter Tryd.func11, Tryd.ntmps11
      go_wp2_with fail
      refine (known_any _).mono ?_
      rintro e w1 ⟨rfl, hb1⟩
      have hs1 : w.heap.size ≤ w1.heap.size := by have h := hb1.size; (try simp at h); omega
      go_wp2_with fail
      refine (make_any n d _ hn hd).mono ?_
      rintro e w2 ⟨rfl, hb2⟩
      rw [M.out]
      have hs2 : w.heap.size ≤ w2.heap.size := by have h := hb2.size; (try simp at h); omega
      go_wp2_with fail
      refine (parse_any s _ hs).mono ?_
      rintro e w3 ⟨rfl, hb3⟩
      rw [P.out]
      have hs3 : w.heap.size ≤ w3.heap.size := by have h := hb3.size; (try simp at h); omega
      go_wp2_with fail
      go_ret
      refine ⟨rfl, ?_⟩
      repeat (first | exact Below.refl _ _ | assumption | refine below_drewN ?_ _ | refine Below.drew ?_ | refine below_alloc ?_ _ | (refine below_call ?_ (by assumption)) | (refine Below.setCell ?_ ?_ _; rotate_left; (simp; try omega)))
set_option maxRecDepth 100000 in
set_option maxHeartbeats 1000000 in
theorem walk_good (n d : Int) (s : ByteArray) (w : World) (hn : n ≤ 9223372036854775807) (hd : d ≤ 9223372036854775807) (hit : ∀ m : Int, -9223372036854775808 ≤ m → m ≤ 9223372036854775807 → ItoaAt w m) (hz : (mk n d).2.2 = 0) :
    Calls Tryd.prog 11 #[.int .i64 n, .int .i64 d, .string s] w fun e w' => e = .returned (.bool true) ∧ Below w.heap.size w w' := by
  obtain ⟨⟨p, q, r⟩, hm⟩ : ∃ x, x = mk n d := ⟨_, rfl⟩
  have hokm := mk_ok hz
  rw [← hm] at hz hokm
  simp only at hz hokm
  subst hz
  have M := Lib.hid hm.symm; clear hm
  have j1 := hit p (by have := hokm.1; simp at this; omega) (by have := hokm.2.1; simp at this; omega)
  have j2 := hit q (by have := hokm.2.2.1; simp at this; omega) (by have := hokm.2.2.2.1; simp at this; omega)
  have hcm := chk_of_ok hokm
  simp only at hcm
  have TM := Lib.hid (show textS p q = (txt p q, 0) by unfold textS; rw [if_neg (by rw [hcm]; exact fun h => h rfl)])
  have PM := Lib.hid (show parS (ByteArray.mk (txt p q).toArray).data.toList = (p, q, 0) from par_txt hokm)
  have hsz := txt_len p q hokm
  obtain ⟨x, hx⟩ : ∃ x, x = ByteArray.mk (txt p q).toArray := ⟨_, rfl⟩
  have hxs : (x.size : Int) ≤ 9223372036854775806 := by rw [hx]; show ((txt p q).toArray.size : Int) ≤ _; rw [List.size_toArray]; omega
  have X := Lib.hid hx.symm
  rw [← hx] at PM
  clear hx hsz hokm
  have C := Lib.hid hcm; clear hcm
  by_cases hl : 40 < s.size
  · have hl' : (40 : Int) < (s.size : Int) := by omega
    go_enter Tryd.func11, Tryd.ntmps11
    go_wp2_with fail
    refine (known_any _).mono ?_
    rintro e w1 ⟨rfl, hb1⟩
    have hs1 : w.heap.size ≤ w1.heap.size := by have h := hb1.size; (try simp at h); omega
    go_wp2_with fail
    refine (make_any n d _ hn hd).mono ?_
    rintro e w2 ⟨rfl, hb2⟩
    rw [M.out]
    have hs2 : w.heap.size ≤ w2.heap.size := by have h := hb2.size; (try simp at h); omega
    go_wp2_with fail
    refine (text_any p q _ (j1.later (by repeat (first | exact Below.refl _ _ | assumption | refine below_drewN ?_ _ | refine Below.drew ?_ | refine below_alloc ?_ _ | (refine below_call ?_ (by assumption)) | (refine Below.setCell ?_ ?_ _; rotate_left; (simp; try omega))))) (j2.later (by repeat (first | exact Below.refl _ _ | assumption | refine below_drewN ?_ _ | refine Below.drew ?_ | refine below_alloc ?_ _ | (refine below_call ?_ (by assumption)) | (refine Below.setCell ?_ ?_ _; rotate_left; (simp; try omega)))))).mono ?_
    rintro e w3 ⟨rfl, hb3⟩
    rw [TM.out, X.out]
    have BM3 : Blk w3 (w2.heap.size) 23 #[.int .i64 p, .int .i64 q] := by
      refine Blk.kept ?_ hb3
      repeat (first | with_reducible exact Blk.new _ _ _ | (with_reducible refine Blk.newAt _ _ _ _ ?_; first | rfl | (simp; done)) | with_reducible apply Blk.alloc | with_reducible apply Blk.drewN | with_reducible apply Blk.drew | with_reducible apply Blk.set_to | (with_reducible apply Blk.far_; (simp only [ne_eq]; omega)) | rfl)
    have cM0_3 : w3.cell? ⟨w2.heap.size, 0, none⟩ = some (.int .i64 p) := BM3.cell 0
    have cM1_3 : w3.cell? ⟨w2.heap.size, 1, none⟩ = some (.int .i64 q) := BM3.cell 1
    have lM3 : w2.heap.size < w3.heap.size := BM3.lt
    have mM3 : w2.heap.size < w3.heap.size + 1 := by omega
    have nM3 : w2.heap.size < w3.heap.size + 1 + 1 := by omega
    have hs3 : w.heap.size ≤ w3.heap.size := by have h := hb3.size; (try simp at h); omega
    go_wp2_with fail
    refine (parse_any x _ hxs).mono ?_
    rintro e w4 ⟨rfl, hb4⟩
    rw [PM.out]
    have BM4 : Blk w4 (w2.heap.size) 23 #[.int .i64 p, .int .i64 q] := by
      refine Blk.kept ?_ hb4
      repeat (first | with_reducible exact BM3 | with_reducible exact Blk.new _ _ _ | (with_reducible refine Blk.newAt _ _ _ _ ?_; first | rfl | (simp; done)) | with_reducible apply Blk.alloc | with_reducible apply Blk.drewN | with_reducible apply Blk.drew | with_reducible apply Blk.set_to | (with_reducible apply Blk.far_; (simp only [ne_eq]; omega)) | rfl)
    have cM0_4 : w4.cell? ⟨w2.heap.size, 0, none⟩ = some (.int .i64 p) := BM4.cell 0
    have cM1_4 : w4.cell? ⟨w2.heap.size, 1, none⟩ = some (.int .i64 q) := BM4.cell 1
    have lM4 : w2.heap.size < w4.heap.size := BM4.lt
    have mM4 : w2.heap.size < w4.heap.size + 1 := by omega
    have nM4 : w2.heap.size < w4.heap.size + 1 + 1 := by omega
    clear BM3 lM3 mM3 nM3 cM0_3 cM1_3
    have hs4 : w.heap.size ≤ w4.heap.size := by have h := hb4.size; (try simp at h); omega
    go_wp2_with fail
    refine (check_any p q _).mono ?_
    rintro e w5 ⟨rfl, hb5⟩
    rw [C.out]
    have BM5 : Blk w5 (w2.heap.size) 23 #[.int .i64 p, .int .i64 q] := by
      refine Blk.kept ?_ hb5
      repeat (first | with_reducible exact BM4 | with_reducible exact Blk.new _ _ _ | (with_reducible refine Blk.newAt _ _ _ _ ?_; first | rfl | (simp; done)) | with_reducible apply Blk.alloc | with_reducible apply Blk.drewN | with_reducible apply Blk.drew | with_reducible apply Blk.set_to | (with_reducible apply Blk.far_; (simp only [ne_eq]; omega)) | rfl)
    have cM0_5 : w5.cell? ⟨w2.heap.size, 0, none⟩ = some (.int .i64 p) := BM5.cell 0
    have cM1_5 : w5.cell? ⟨w2.heap.size, 1, none⟩ = some (.int .i64 q) := BM5.cell 1
    have lM5 : w2.heap.size < w5.heap.size := BM5.lt
    have mM5 : w2.heap.size < w5.heap.size + 1 := by omega
    have nM5 : w2.heap.size < w5.heap.size + 1 + 1 := by omega
    have BN5 : Blk w5 (w4.heap.size) 23 #[.int .i64 p, .int .i64 q] := by
      refine Blk.kept ?_ hb5
      repeat (first | with_reducible exact Blk.new _ _ _ | (with_reducible refine Blk.newAt _ _ _ _ ?_; first | rfl | (simp; done)) | with_reducible apply Blk.alloc | with_reducible apply Blk.drewN | with_reducible apply Blk.drew | with_reducible apply Blk.set_to | (with_reducible apply Blk.far_; (simp only [ne_eq]; omega)) | rfl)
    have cN0_5 : w5.cell? ⟨w4.heap.size, 0, none⟩ = some (.int .i64 p) := BN5.cell 0
    have cN1_5 : w5.cell? ⟨w4.heap.size, 1, none⟩ = some (.int .i64 q) := BN5.cell 1
    have lN5 : w4.heap.size < w5.heap.size := BN5.lt
    have mN5 : w4.heap.size < w5.heap.size + 1 := by omega
    have nN5 : w4.heap.size < w5.heap.size + 1 + 1 := by omega
    clear BM4 lM4 mM4 nM4 cM0_4 cM1_4
    have hs5 : w.heap.size ≤ w5.heap.size := by have h := hb5.size; (try simp at h); omega
    go_wp2_with fail
    go_ret
    refine ⟨rfl, ?_⟩
    repeat (first | exact Below.refl _ _ | assumption | refine below_drewN ?_ _ | refine Below.drew ?_ | refine below_alloc ?_ _ | (refine below_call ?_ (by assumption)) | (refine Below.setCell ?_ ?_ _; rotate_left; (simp; try omega)))
  · have hs : (s.size : Int) ≤ 9223372036854775806 := by omega
    have hl' : s.size ≤ 40 := by omega
    clear hl
    obtain ⟨b1, b2⟩ := par_back s.data.toList
    obtain ⟨⟨u, v, g⟩, hp⟩ : ∃ x, x = parS s.data.toList := ⟨_, rfl⟩
    rw [← hp] at b1 b2
    simp only at b1 b2
    have P := Lib.hid hp.symm; clear hp
    by_cases hg : g = 0
    · subst hg
      obtain ⟨hc, ht⟩ := b2 rfl
      clear b1 b2
      have hok := ok_of_chk hc
      have i1 := hit u (by have := hok.1; simp at this; omega) (by have := hok.2.1; simp at this; omega)
      have i2 := hit v (by have := hok.2.2.1; simp at this; omega) (by have := hok.2.2.2.1; simp at this; omega)
      have T := Lib.hid (show textS u v = (txt u v, 0) by unfold textS; rw [if_neg (by rw [hc]; exact fun h => h rfl)])
      have S := Lib.hid (txt_str s (txt u v) ht)
      clear hok hc ht
      go_enter Tryd.func11, Tryd.ntmps11
      go_wp2_with fail
      refine (known_any _).mono ?_
      rintro e w1 ⟨rfl, hb1⟩
      have hs1 : w.heap.size ≤ w1.heap.size := by have h := hb1.size; (try simp at h); omega
      go_wp2_with fail
      refine (make_any n d _ hn hd).mono ?_
      rintro e w2 ⟨rfl, hb2⟩
      rw [M.out]
      have hs2 : w.heap.size ≤ w2.heap.size := by have h := hb2.size; (try simp at h); omega
      go_wp2_with fail
      refine (text_any p q _ (j1.later (by repeat (first | exact Below.refl _ _ | assumption | refine below_drewN ?_ _ | refine Below.drew ?_ | refine below_alloc ?_ _ | (refine below_call ?_ (by assumption)) | (refine Below.setCell ?_ ?_ _; rotate_left; (simp; try omega))))) (j2.later (by repeat (first | exact Below.refl _ _ | assumption | refine below_drewN ?_ _ | refine Below.drew ?_ | refine below_alloc ?_ _ | (refine below_call ?_ (by assumption)) | (refine Below.setCell ?_ ?_ _; rotate_left; (simp; try omega)))))).mono ?_
      rintro e w3 ⟨rfl, hb3⟩
      rw [TM.out, X.out]
      have BM3 : Blk w3 (w2.heap.size) 23 #[.int .i64 p, .int .i64 q] := by
        refine Blk.kept ?_ hb3
        repeat (first | with_reducible exact Blk.new _ _ _ | (with_reducible refine Blk.newAt _ _ _ _ ?_; first | rfl | (simp; done)) | with_reducible apply Blk.alloc | with_reducible apply Blk.drewN | with_reducible apply Blk.drew | with_reducible apply Blk.set_to | (with_reducible apply Blk.far_; (simp only [ne_eq]; omega)) | rfl)
      have cM0_3 : w3.cell? ⟨w2.heap.size, 0, none⟩ = some (.int .i64 p) := BM3.cell 0
      have cM1_3 : w3.cell? ⟨w2.heap.size, 1, none⟩ = some (.int .i64 q) := BM3.cell 1
      have lM3 : w2.heap.size < w3.heap.size := BM3.lt
      have mM3 : w2.heap.size < w3.heap.size + 1 := by omega
      have nM3 : w2.heap.size < w3.heap.size + 1 + 1 := by omega
      have hs3 : w.heap.size ≤ w3.heap.size := by have h := hb3.size; (try simp at h); omega
      go_wp2_with fail
      refine (parse_any x _ hxs).mono ?_
      rintro e w4 ⟨rfl, hb4⟩
      rw [PM.out]
      have BM4 : Blk w4 (w2.heap.size) 23 #[.int .i64 p, .int .i64 q] := by
        refine Blk.kept ?_ hb4
        repeat (first | with_reducible exact BM3 | with_reducible exact Blk.new _ _ _ | (with_reducible refine Blk.newAt _ _ _ _ ?_; first | rfl | (simp; done)) | with_reducible apply Blk.alloc | with_reducible apply Blk.drewN | with_reducible apply Blk.drew | with_reducible apply Blk.set_to | (with_reducible apply Blk.far_; (simp only [ne_eq]; omega)) | rfl)
      have cM0_4 : w4.cell? ⟨w2.heap.size, 0, none⟩ = some (.int .i64 p) := BM4.cell 0
      have cM1_4 : w4.cell? ⟨w2.heap.size, 1, none⟩ = some (.int .i64 q) := BM4.cell 1
      have lM4 : w2.heap.size < w4.heap.size := BM4.lt
      have mM4 : w2.heap.size < w4.heap.size + 1 := by omega
      have nM4 : w2.heap.size < w4.heap.size + 1 + 1 := by omega
      clear BM3 lM3 mM3 nM3 cM0_3 cM1_3
      have hs4 : w.heap.size ≤ w4.heap.size := by have h := hb4.size; (try simp at h); omega
      go_wp2_with fail
      refine (check_any p q _).mono ?_
      rintro e w5 ⟨rfl, hb5⟩
      rw [C.out]
      have BM5 : Blk w5 (w2.heap.size) 23 #[.int .i64 p, .int .i64 q] := by
        refine Blk.kept ?_ hb5
        repeat (first | with_reducible exact BM4 | with_reducible exact Blk.new _ _ _ | (with_reducible refine Blk.newAt _ _ _ _ ?_; first | rfl | (simp; done)) | with_reducible apply Blk.alloc | with_reducible apply Blk.drewN | with_reducible apply Blk.drew | with_reducible apply Blk.set_to | (with_reducible apply Blk.far_; (simp only [ne_eq]; omega)) | rfl)
      have cM0_5 : w5.cell? ⟨w2.heap.size, 0, none⟩ = some (.int .i64 p) := BM5.cell 0
      have cM1_5 : w5.cell? ⟨w2.heap.size, 1, none⟩ = some (.int .i64 q) := BM5.cell 1
      have lM5 : w2.heap.size < w5.heap.size := BM5.lt
      have mM5 : w2.heap.size < w5.heap.size + 1 := by omega
      have nM5 : w2.heap.size < w5.heap.size + 1 + 1 := by omega
      have BN5 : Blk w5 (w4.heap.size) 23 #[.int .i64 p, .int .i64 q] := by
        refine Blk.kept ?_ hb5
        repeat (first | with_reducible exact Blk.new _ _ _ | (with_reducible refine Blk.newAt _ _ _ _ ?_; first | rfl | (simp; done)) | with_reducible apply Blk.alloc | with_reducible apply Blk.drewN | with_reducible apply Blk.drew | with_reducible apply Blk.set_to | (with_reducible apply Blk.far_; (simp only [ne_eq]; omega)) | rfl)
      have cN0_5 : w5.cell? ⟨w4.heap.size, 0, none⟩ = some (.int .i64 p) := BN5.cell 0
      have cN1_5 : w5.cell? ⟨w4.heap.size, 1, none⟩ = some (.int .i64 q) := BN5.cell 1
      have lN5 : w4.heap.size < w5.heap.size := BN5.lt
      have mN5 : w4.heap.size < w5.heap.size + 1 := by omega
      have nN5 : w4.heap.size < w5.heap.size + 1 + 1 := by omega
      clear BM4 lM4 mM4 nM4 cM0_4 cM1_4
      have hs5 : w.heap.size ≤ w5.heap.size := by have h := hb5.size; (try simp at h); omega
      go_wp2_with fail
      refine (parse_any s _ hs).mono ?_
      rintro e w6 ⟨rfl, hb6⟩
      rw [P.out]
      clear BM5 lM5 mM5 nM5 cM0_5 cM1_5 BN5 lN5 mN5 nN5 cN0_5 cN1_5
      have hs6 : w.heap.size ≤ w6.heap.size := by have h := hb6.size; (try simp at h); omega
      go_wp2_with fail
      refine (text_any u v _ (i1.later (by repeat (first | exact Below.refl _ _ | assumption | refine below_drewN ?_ _ | refine Below.drew ?_ | refine below_alloc ?_ _ | (refine below_call ?_ (by assumption)) | (refine Below.setCell ?_ ?_ _; rotate_left; (simp; try omega))))) (i2.later (by repeat (first | exact Below.refl _ _ | assumption | refine below_drewN ?_ _ | refine Below.drew ?_ | refine below_alloc ?_ _ | (refine below_call ?_ (by assumption)) | (refine Below.setCell ?_ ?_ _; rotate_left; (simp; try omega)))))).mono ?_
      rintro e w7 ⟨rfl, hb7⟩
      rw [T.out, S.out]
      have BU7 : Blk w7 (w6.heap.size) 23 #[.int .i64 u, .int .i64 v] := by
        refine Blk.kept ?_ hb7
        repeat (first | with_reducible exact Blk.new _ _ _ | (with_reducible refine Blk.newAt _ _ _ _ ?_; first | rfl | (simp; done)) | with_reducible apply Blk.alloc | with_reducible apply Blk.drewN | with_reducible apply Blk.drew | with_reducible apply Blk.set_to | (with_reducible apply Blk.far_; (simp only [ne_eq]; omega)) | rfl)
      have cU0_7 : w7.cell? ⟨w6.heap.size, 0, none⟩ = some (.int .i64 u) := BU7.cell 0
      have cU1_7 : w7.cell? ⟨w6.heap.size, 1, none⟩ = some (.int .i64 v) := BU7.cell 1
      have lU7 : w6.heap.size < w7.heap.size := BU7.lt
      have mU7 : w6.heap.size < w7.heap.size + 1 := by omega
      have nU7 : w6.heap.size < w7.heap.size + 1 + 1 := by omega
      have hs7 : w.heap.size ≤ w7.heap.size := by have h := hb7.size; (try simp at h); omega
      go_wp2_with fail
      go_ret
      refine ⟨rfl, ?_⟩
      repeat (first | exact Below.refl _ _ | assumption | refine below_drewN ?_ _ | refine Below.drew ?_ | refine below_alloc ?_ _ | (refine below_call ?_ (by assumption)) | (refine Below.setCell ?_ ?_ _; rotate_left; (simp; try omega)))
    · obtain ⟨rfl, rfl⟩ := b1 hg
      have hg' : (g == 0) = false := by simpa using hg
      clear b1 b2 hg
      go_enter Tryd.func11, Tryd.ntmps11
      go_wp2_with fail
      refine (known_any _).mono ?_
      rintro e w1 ⟨rfl, hb1⟩
      have hs1 : w.heap.size ≤ w1.heap.size := by have h := hb1.size; (try simp at h); omega
      go_wp2_with fail
      refine (make_any n d _ hn hd).mono ?_
      rintro e w2 ⟨rfl, hb2⟩
      rw [M.out]
      have hs2 : w.heap.size ≤ w2.heap.size := by have h := hb2.size; (try simp at h); omega
      go_wp2_with fail
      refine (text_any p q _ (j1.later (by repeat (first | exact Below.refl _ _ | assumption | refine below_drewN ?_ _ | refine Below.drew ?_ | refine below_alloc ?_ _ | (refine below_call ?_ (by assumption)) | (refine Below.setCell ?_ ?_ _; rotate_left; (simp; try omega))))) (j2.later (by repeat (first | exact Below.refl _ _ | assumption | refine below_drewN ?_ _ | refine Below.drew ?_ | refine below_alloc ?_ _ | (refine below_call ?_ (by assumption)) | (refine Below.setCell ?_ ?_ _; rotate_left; (simp; try omega)))))).mono ?_
      rintro e w3 ⟨rfl, hb3⟩
      rw [TM.out, X.out]
      have BM3 : Blk w3 (w2.heap.size) 23 #[.int .i64 p, .int .i64 q] := by
        refine Blk.kept ?_ hb3
        repeat (first | with_reducible exact Blk.new _ _ _ | (with_reducible refine Blk.newAt _ _ _ _ ?_; first | rfl | (simp; done)) | with_reducible apply Blk.alloc | with_reducible apply Blk.drewN | with_reducible apply Blk.drew | with_reducible apply Blk.set_to | (with_reducible apply Blk.far_; (simp only [ne_eq]; omega)) | rfl)
      have cM0_3 : w3.cell? ⟨w2.heap.size, 0, none⟩ = some (.int .i64 p) := BM3.cell 0
      have cM1_3 : w3.cell? ⟨w2.heap.size, 1, none⟩ = some (.int .i64 q) := BM3.cell 1
      have lM3 : w2.heap.size < w3.heap.size := BM3.lt
      have mM3 : w2.heap.size < w3.heap.size + 1 := by omega
      have nM3 : w2.heap.size < w3.heap.size + 1 + 1 := by omega
      have hs3 : w.heap.size ≤ w3.heap.size := by have h := hb3.size; (try simp at h); omega
      go_wp2_with fail
      refine (parse_any x _ hxs).mono ?_
      rintro e w4 ⟨rfl, hb4⟩
      rw [PM.out]
      have BM4 : Blk w4 (w2.heap.size) 23 #[.int .i64 p, .int .i64 q] := by
        refine Blk.kept ?_ hb4
        repeat (first | with_reducible exact BM3 | with_reducible exact Blk.new _ _ _ | (with_reducible refine Blk.newAt _ _ _ _ ?_; first | rfl | (simp; done)) | with_reducible apply Blk.alloc | with_reducible apply Blk.drewN | with_reducible apply Blk.drew | with_reducible apply Blk.set_to | (with_reducible apply Blk.far_; (simp only [ne_eq]; omega)) | rfl)
      have cM0_4 : w4.cell? ⟨w2.heap.size, 0, none⟩ = some (.int .i64 p) := BM4.cell 0
      have cM1_4 : w4.cell? ⟨w2.heap.size, 1, none⟩ = some (.int .i64 q) := BM4.cell 1
      have lM4 : w2.heap.size < w4.heap.size := BM4.lt
      have mM4 : w2.heap.size < w4.heap.size + 1 := by omega
      have nM4 : w2.heap.size < w4.heap.size + 1 + 1 := by omega
      clear BM3 lM3 mM3 nM3 cM0_3 cM1_3
      have hs4 : w.heap.size ≤ w4.heap.size := by have h := hb4.size; (try simp at h); omega
      go_wp2_with fail
      refine (check_any p q _).mono ?_
      rintro e w5 ⟨rfl, hb5⟩
      rw [C.out]
      have BM5 : Blk w5 (w2.heap.size) 23 #[.int .i64 p, .int .i64 q] := by
        refine Blk.kept ?_ hb5
        repeat (first | with_reducible exact BM4 | with_reducible exact Blk.new _ _ _ | (with_reducible refine Blk.newAt _ _ _ _ ?_; first | rfl | (simp; done)) | with_reducible apply Blk.alloc | with_reducible apply Blk.drewN | with_reducible apply Blk.drew | with_reducible apply Blk.set_to | (with_reducible apply Blk.far_; (simp only [ne_eq]; omega)) | rfl)
      have cM0_5 : w5.cell? ⟨w2.heap.size, 0, none⟩ = some (.int .i64 p) := BM5.cell 0
      have cM1_5 : w5.cell? ⟨w2.heap.size, 1, none⟩ = some (.int .i64 q) := BM5.cell 1
      have lM5 : w2.heap.size < w5.heap.size := BM5.lt
      have mM5 : w2.heap.size < w5.heap.size + 1 := by omega
      have nM5 : w2.heap.size < w5.heap.size + 1 + 1 := by omega
      have BN5 : Blk w5 (w4.heap.size) 23 #[.int .i64 p, .int .i64 q] := by
        refine Blk.kept ?_ hb5
        repeat (first | with_reducible exact Blk.new _ _ _ | (with_reducible refine Blk.newAt _ _ _ _ ?_; first | rfl | (simp; done)) | with_reducible apply Blk.alloc | with_reducible apply Blk.drewN | with_reducible apply Blk.drew | with_reducible apply Blk.set_to | (with_reducible apply Blk.far_; (simp only [ne_eq]; omega)) | rfl)
      have cN0_5 : w5.cell? ⟨w4.heap.size, 0, none⟩ = some (.int .i64 p) := BN5.cell 0
      have cN1_5 : w5.cell? ⟨w4.heap.size, 1, none⟩ = some (.int .i64 q) := BN5.cell 1
      have lN5 : w4.heap.size < w5.heap.size := BN5.lt
      have mN5 : w4.heap.size < w5.heap.size + 1 := by omega
      have nN5 : w4.heap.size < w5.heap.size + 1 + 1 := by omega
      clear BM4 lM4 mM4 nM4 cM0_4 cM1_4
      have hs5 : w.heap.size ≤ w5.heap.size := by have h := hb5.size; (try simp at h); omega
      go_wp2_with fail
      refine (parse_any s _ hs).mono ?_
      rintro e w6 ⟨rfl, hb6⟩
      rw [P.out]
      clear BM5 lM5 mM5 nM5 cM0_5 cM1_5 BN5 lN5 mN5 nN5 cN0_5 cN1_5
      have hs6 : w.heap.size ≤ w6.heap.size := by have h := hb6.size; (try simp at h); omega
      go_wp2_with fail
      go_ret
      refine ⟨rfl, ?_⟩
      repeat (first | exact Below.refl _ _ | assumption | refine below_drewN ?_ _ | refine Below.drew ?_ | refine below_alloc ?_ _ | (refine below_call ?_ (by assumption)) | (refine Below.setCell ?_ ?_ _; rotate_left; (simp; try omega)))
theorem walk (n d : Int) (s : ByteArray) (w : World) (hn : n ≤ 9223372036854775807) (hd : d ≤ 9223372036854775807) (hit : ∀ m : Int, -9223372036854775808 ≤ m → m ≤ 9223372036854775807 → ItoaAt w m) :
    Calls Tryd.prog 11 #[.int .i64 n, .int .i64 d, .string s] w fun e w' => e = .returned (.bool true) ∧ Below w.heap.size w w' := by
  by_cases hz : (mk n d).2.2 = 0
  · exact walk_good n d s w hn hd hit hz
  · exact walk_bad n d s w hn hd hit hz

set_option maxRecDepth 100000 in
theorem lifted (os : Os) (started : os.Started) (H : Type) (enc : TypeId × Value → H) :
    ReturnsInHanded {} Tryd.checked os 11 .any (fun w args => (Rows.spanReadsSpec.pre enc Tryd.prog Tryd.f11 [] false w args ∧ laidMetH Tryd.prog laids w) ∧ sizedMet enc Tryd.prog Tryd.f11 (OpenSpec.ofChange Rows.spanReadsSpec) false w args) (Rows.spanReadsSpec.post enc Tryd.prog Tryd.f11 false true false false) := by
  refine returnsInHanded_of_change_and (C := Tryd.checked) (X := fun w _ => laidMetH Tryd.prog laids w) (fun _ _ _ hh h => h.of_heap hh) own started (by kernel_rfl) Tryd.func11
    (ChangeSpec.witness_shaped (enc := enc) (C := Tryd.checked) (os := os) (X := fun w _ => laidMetH Tryd.prog laids w) false (World.doorLaid Tryd.prog 24 os) #[.int .i64 0, .int .i64 0, .string ByteArray.empty] 8 rfl (World.shaped_of_RefB (by kernel_rfl) (by kernel_rfl)) (by kernel_rfl) (by kernel_rfl) (by kernel_rfl) (door_met os _)) ?_
  intro W base args ds gs before hval0 hW _ _ hL _
  have hval : ∀ (j : Nat) t v, Tryd.f11.params[j]? = some t → args[j]? = some v → Value.okWide Tryd.prog W .any base t v := hval0
  have hW' := hW
  obtain ⟨p, q, hA0, hV, rfl, hfz, hnd⟩ := hW
  have hA : DataW.TrodAll enc Tryd.prog W 0 (fun _ => true) true Tryd.f11.params.toList args.toList ds p := hA0
  rw [Tryd.params11] at hA hval
  obtain ⟨v0, vs0, d0, ds0, p0, q0, hargs, rfl, rfl, h0, r0⟩ := trodAll_cons hA
  obtain ⟨v1, vs1, d1, ds1, p1, q1, rfl, rfl, rfl, h1, r1⟩ := trodAll_cons r0
  obtain ⟨v2, vs2, d2, ds2, p2, q2, rfl, rfl, rfl, h2, r2⟩ := trodAll_cons r1
  obtain ⟨rfl, rfl, rfl⟩ := trodAll_nil r2
  obtain rfl : args = #[v0, v1, v2] := by cases args; simp_all
  obtain ⟨rfl, rfl⟩ := trodVars_none hV
  have k0 := h0
  have lt0 : ∀ x ∈ p0, x.block < W.heap.size := by obtain ⟨m, hm⟩ := k0; exact DataW.trod_lt m _ _ _ hm
  obtain ⟨a0, rfl, w0⟩ := arg_int (hval 0 3 v0 rfl rfl) h0
  have k1 := h1
  have lt1 : ∀ x ∈ p1, x.block < W.heap.size := by obtain ⟨m, hm⟩ := k1; exact DataW.trod_lt m _ _ _ hm
  obtain ⟨a1, rfl, w1⟩ := arg_int (hval 1 3 v1 rfl rfl) h1
  have k2 := h2
  have lt2 : ∀ x ∈ p2, x.block < W.heap.size := by obtain ⟨m, hm⟩ := k2; exact DataW.trod_lt m _ _ _ hm
  obtain ⟨a2, rfl, w2⟩ := arg_string (hval 2 9 v2 rfl rfl) h2
  clear hA0 hval0
  refine (walk a0 a1 a2 W w0.2 w1.2 (fun m h0 h1 => itoa_of_table (table_of hL) m h0 h1)).mono fun e W' ⟨he, bel⟩ => ?_
  subst he
  exact ⟨_, rfl, _, _, _, [], _, [], hW', trodAll_mk1 (shut_bool Tryd.underlying4 _), (trodAll_cons_mk (Below.trod laidOut (by kernel_rfl) (of_decide_eq_true (by kernel_rfl)) k0 bel lt0) (trodAll_cons_mk (Below.trod laidOut (by kernel_rfl) (of_decide_eq_true (by kernel_rfl)) k1 bel lt1) (trodAll_cons_mk (Below.trod laidOut (by kernel_rfl) (of_decide_eq_true (by kernel_rfl)) k2 bel lt2) trodAll_mk0))), rfl, bel.frame _, fun h => by cases h⟩

theorem over : Rows.SpanReadsSaid :=
  OpenClaim.holds_of_wide 11 Tryd.f11 rfl rfl rfl rfl rfl rfl rfl ⟨rfl, rfl, rfl, rfl, rfl⟩ rfl rfl rfl rfl rfl (by kernel_rfl) Tryd.func11 (by kernel_rfl)
    (of_decide_eq_true (by kernel_rfl)) (by unfold Func.isWrapper; first | (rw [if_pos (by decide +kernel)]; kernel_rfl) | (rw [if_neg (by decide +kernel)]; exact ⟨rfl, rfl⟩))
    (fun os started H enc _ => lifted os started H enc)

/-- The card: the row, its variables tied to the program's text. -/
theorem proved : Rows.SpanReadsCardSaid :=
  Claim7.holds_tied_plain_at .later [] [.data, .data, .data] true Rows.spanReadsCard.stood.harness false
    over (fun _ h => by cases h) (by kernel_rfl) (fun _ h => by cases h) spanReads_row_tie rfl ⟨rfl, rfl⟩ (by kernel_rfl) rfl
    (fun f fn hf hfn => by
      obtain rfl : f = 11 := Option.some.inj ((show Tryd.prog.funcNamed Tryd.f11.name = some 11 by kernel_rfl).symm.trans hf) |>.symm
      obtain rfl : fn = Tryd.f11 := (Option.some.inj (Tryd.func11.symm.trans hfn)).symm
      exact ⟨by kernel_rfl, fun j t ht => by
        rw [Tryd.params11] at ht
        have hm : t ∈ Tryd.f11.params.toList := by rw [Tryd.params11]; simpa using Array.mem_of_getElem? ht
        have hall : (Tryd.f11.params.toList.all fun u => !Tryd.prog.wantsStandIn u) = true := by kernel_rfl
        exact (show Tryd.prog.wantsStandIn t = false by simpa using List.all_eq_true.1 hall t hm)⟩)
    (by kernel_rfl)

end Go.Proofs.YtfafjdbdpbjklaaDoor.spanReads
