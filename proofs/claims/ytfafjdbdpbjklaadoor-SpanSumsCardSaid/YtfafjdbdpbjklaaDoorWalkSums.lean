/- The walk through tactuslaw01.SpanSums: it returns true. -/
import Derived.Test.YtfafjdbdpbjklaaDoorAwake
namespace Go.Proofs.YtfafjdbdpbjklaaDoor
open Go.RowKit
theorem Blk.newAt (w : World) (t : TypeId) (cs : Array Value) (g : Nat) (hg : g = w.heap.size) : Blk (w.alloc (.cells cs t)) g t cs := by subst hg; exact Blk.new w t cs
set_option maxRecDepth 100000 in
set_option maxHeartbeats 1000000 in
theorem sums_walk (a a' b b' : Int) (w : World) :
    Calls Tryd.prog 6 #[.agg #[.int .i64 a, .int .i64 a'], .agg #[.int .i64 b, .int .i64 b']] w fun e w' => e = .returned (.bool true) ∧ Below w.heap.size w w' := by
  obtain ⟨⟨p1, q1, r1⟩, hm1⟩ : ∃ x, x = addS (a, a') (b, b') := ⟨_, rfl⟩
  have M1 := Lib.hid hm1; clear hm1
  obtain ⟨⟨p2, q2, r2⟩, hm2⟩ : ∃ x, x = subS (a, a') (b, b') := ⟨_, rfl⟩
  have M2 := Lib.hid hm2; clear hm2
  obtain ⟨⟨p3, q3, r3⟩, hm3⟩ : ∃ x, x = mulS (a, a') (b, b') := ⟨_, rfl⟩
  have M3 := Lib.hid hm3; clear hm3
  obtain ⟨⟨p4, q4, r4⟩, hm4⟩ : ∃ x, x = divS (a, a') (b, b') := ⟨_, rfl⟩
  have M4 := Lib.hid hm4; clear hm4
  obtain ⟨⟨p5, r5⟩, hm5⟩ : ∃ x, x = cmpS (a, a') (b, b') := ⟨_, rfl⟩
  have M5 := Lib.hid hm5; clear hm5
  go_enter Tryd.func6, Tryd.ntmps6
  go_wp2_with fail
  refine (add_any (a, a') (b, b') _).mono ?_
  rintro e w1 ⟨rfl, hb1⟩
  rw [← M1.out]
  have BA1 : Blk w1 (w.heap.size) 23 #[.int .i64 a, .int .i64 a'] := ((Blk.new w _ _).alloc _).kept hb1
  have BB1 : Blk w1 (w.heap.size + 1) 23 #[.int .i64 b, .int .i64 b'] := (Blk.newAt _ _ _ _ (by simp)).kept hb1
  have cA0_1 : w1.cell? ⟨w.heap.size, 0, none⟩ = some (.int .i64 a) := BA1.cell 0
  have cA1_1 : w1.cell? ⟨w.heap.size, 1, none⟩ = some (.int .i64 a') := BA1.cell 1
  have lA1 := BA1.lt
  have lA1' : w.heap.size < w1.heap.size + 1 := by omega
  have cB0_1 : w1.cell? ⟨w.heap.size + 1, 0, none⟩ = some (.int .i64 b) := BB1.cell 0
  have cB1_1 : w1.cell? ⟨w.heap.size + 1, 1, none⟩ = some (.int .i64 b') := BB1.cell 1
  have lB1 := BB1.lt
  have lB1' : w.heap.size + 1 < w1.heap.size + 1 := by omega
  go_wp2_with fail
  refine (refAdd_any (a, a') (b, b') _).mono ?_
  rintro e w2 ⟨rfl, hb2⟩
  rw [← M1.out]
  have BA2 : Blk w2 (w.heap.size) 23 #[.int .i64 a, .int .i64 a'] := (BA1.alloc _).kept hb2
  have BB2 : Blk w2 (w.heap.size + 1) 23 #[.int .i64 b, .int .i64 b'] := (BB1.alloc _).kept hb2
  have BS2 : Blk w2 (w1.heap.size) 23 #[.int .i64 p1, .int .i64 q1] := (Blk.new w1 _ _).kept hb2
  have cA0_2 : w2.cell? ⟨w.heap.size, 0, none⟩ = some (.int .i64 a) := BA2.cell 0
  have cA1_2 : w2.cell? ⟨w.heap.size, 1, none⟩ = some (.int .i64 a') := BA2.cell 1
  have lA2 := BA2.lt
  have lA2' : w.heap.size < w2.heap.size + 1 := by omega
  have cB0_2 : w2.cell? ⟨w.heap.size + 1, 0, none⟩ = some (.int .i64 b) := BB2.cell 0
  have cB1_2 : w2.cell? ⟨w.heap.size + 1, 1, none⟩ = some (.int .i64 b') := BB2.cell 1
  have lB2 := BB2.lt
  have lB2' : w.heap.size + 1 < w2.heap.size + 1 := by omega
  have cS0_2 : w2.cell? ⟨w1.heap.size, 0, none⟩ = some (.int .i64 p1) := BS2.cell 0
  have cS1_2 : w2.cell? ⟨w1.heap.size, 1, none⟩ = some (.int .i64 q1) := BS2.cell 1
  have lS2 := BS2.lt
  have lS2' : w1.heap.size < w2.heap.size + 1 := by omega
  have fS0_2 := BS2.frozen 0
  have fS1_2 := BS2.frozen 1
  have hst : w1.heap.size ≠ w2.heap.size := by omega
  have hts : w2.heap.size ≠ w1.heap.size := by omega
  have hsa : w1.heap.size ≠ w.heap.size := by omega
  have hsb : w1.heap.size ≠ w.heap.size + 1 := by omega
  have hta : w2.heap.size ≠ w.heap.size := by omega
  have htb : w2.heap.size ≠ w.heap.size + 1 := by omega
  go_wp2_with fail
  refine (sub_any (a, a') (b, b') _).mono ?_
  rintro e w3 ⟨rfl, hb3⟩
  rw [← M2.out]
  have BA3 : Blk w3 (w.heap.size) 23 #[.int .i64 a, .int .i64 a'] := (BA2.alloc _).kept hb3
  have BB3 : Blk w3 (w.heap.size + 1) 23 #[.int .i64 b, .int .i64 b'] := (BB2.alloc _).kept hb3
  have BS3 : Blk w3 (w1.heap.size) 23 #[.int .i64 p1, .int .i64 q1] := (BS2.alloc _).kept hb3
  have BT3 : Blk w3 (w2.heap.size) 23 #[.int .i64 p1, .int .i64 q1] := (Blk.new w2 _ _).kept hb3
  have cA0_3 : w3.cell? ⟨w.heap.size, 0, none⟩ = some (.int .i64 a) := BA3.cell 0
  have cA1_3 : w3.cell? ⟨w.heap.size, 1, none⟩ = some (.int .i64 a') := BA3.cell 1
  have lA3 := BA3.lt
  have lA3' : w.heap.size < w3.heap.size + 1 := by omega
  have cB0_3 : w3.cell? ⟨w.heap.size + 1, 0, none⟩ = some (.int .i64 b) := BB3.cell 0
  have cB1_3 : w3.cell? ⟨w.heap.size + 1, 1, none⟩ = some (.int .i64 b') := BB3.cell 1
  have lB3 := BB3.lt
  have lB3' : w.heap.size + 1 < w3.heap.size + 1 := by omega
  have cS0_3 : w3.cell? ⟨w1.heap.size, 0, none⟩ = some (.int .i64 p1) := BS3.cell 0
  have cS1_3 : w3.cell? ⟨w1.heap.size, 1, none⟩ = some (.int .i64 q1) := BS3.cell 1
  have lS3 := BS3.lt
  have lS3' : w1.heap.size < w3.heap.size + 1 := by omega
  have fS0_3 := BS3.frozen 0
  have fS1_3 := BS3.frozen 1
  have cT0_3 : w3.cell? ⟨w2.heap.size, 0, none⟩ = some (.int .i64 p1) := BT3.cell 0
  have cT1_3 : w3.cell? ⟨w2.heap.size, 1, none⟩ = some (.int .i64 q1) := BT3.cell 1
  have lT3 := BT3.lt
  have lT3' : w2.heap.size < w3.heap.size + 1 := by omega
  have fT0_3 := BT3.frozen 0
  have fT1_3 := BT3.frozen 1
  go_wp2_with fail
  refine (refSub_any (a, a') (b, b') _).mono ?_
  rintro e w4 ⟨rfl, hb4⟩
  rw [← M2.out]
  have BA4 : Blk w4 (w.heap.size) 23 #[.int .i64 a, .int .i64 a'] := ((BA3.far (show _ ≠ _ by simp only; omega) _).far (show _ ≠ _ by simp only; omega) _).kept hb4
  have BB4 : Blk w4 (w.heap.size + 1) 23 #[.int .i64 b, .int .i64 b'] := ((BB3.far (show _ ≠ _ by simp only; omega) _).far (show _ ≠ _ by simp only; omega) _).kept hb4
  have BS4 : Blk w4 (w1.heap.size) 23 #[.int .i64 p2, .int .i64 q2] := ((BS3.set_ 0 _).set_ 1 _).kept hb4
  have BT4 : Blk w4 (w2.heap.size) 23 #[.int .i64 p1, .int .i64 q1] := ((BT3.far (show _ ≠ _ by simp only; omega) _).far (show _ ≠ _ by simp only; omega) _).kept hb4
  have cA0_4 : w4.cell? ⟨w.heap.size, 0, none⟩ = some (.int .i64 a) := BA4.cell 0
  have cA1_4 : w4.cell? ⟨w.heap.size, 1, none⟩ = some (.int .i64 a') := BA4.cell 1
  have lA4 := BA4.lt
  have lA4' : w.heap.size < w4.heap.size + 1 := by omega
  have cB0_4 : w4.cell? ⟨w.heap.size + 1, 0, none⟩ = some (.int .i64 b) := BB4.cell 0
  have cB1_4 : w4.cell? ⟨w.heap.size + 1, 1, none⟩ = some (.int .i64 b') := BB4.cell 1
  have lB4 := BB4.lt
  have lB4' : w.heap.size + 1 < w4.heap.size + 1 := by omega
  have cS0_4 : w4.cell? ⟨w1.heap.size, 0, none⟩ = some (.int .i64 p2) := BS4.cell 0
  have cS1_4 : w4.cell? ⟨w1.heap.size, 1, none⟩ = some (.int .i64 q2) := BS4.cell 1
  have lS4 := BS4.lt
  have lS4' : w1.heap.size < w4.heap.size + 1 := by omega
  have fS0_4 := BS4.frozen 0
  have fS1_4 := BS4.frozen 1
  have cT0_4 : w4.cell? ⟨w2.heap.size, 0, none⟩ = some (.int .i64 p1) := BT4.cell 0
  have cT1_4 : w4.cell? ⟨w2.heap.size, 1, none⟩ = some (.int .i64 q1) := BT4.cell 1
  have lT4 := BT4.lt
  have lT4' : w2.heap.size < w4.heap.size + 1 := by omega
  have fT0_4 := BT4.frozen 0
  have fT1_4 := BT4.frozen 1
  go_wp2_with fail
  refine (mul_any (a, a') (b, b') _).mono ?_
  rintro e w5 ⟨rfl, hb5⟩
  rw [← M3.out]
  have BA5 : Blk w5 (w.heap.size) 23 #[.int .i64 a, .int .i64 a'] := ((BA4.far (show _ ≠ _ by simp only; omega) _).far (show _ ≠ _ by simp only; omega) _).kept hb5
  have BB5 : Blk w5 (w.heap.size + 1) 23 #[.int .i64 b, .int .i64 b'] := ((BB4.far (show _ ≠ _ by simp only; omega) _).far (show _ ≠ _ by simp only; omega) _).kept hb5
  have BS5 : Blk w5 (w1.heap.size) 23 #[.int .i64 p2, .int .i64 q2] := ((BS4.far (show _ ≠ _ by simp only; omega) _).far (show _ ≠ _ by simp only; omega) _).kept hb5
  have BT5 : Blk w5 (w2.heap.size) 23 #[.int .i64 p2, .int .i64 q2] := ((BT4.set_ 0 _).set_ 1 _).kept hb5
  have cA0_5 : w5.cell? ⟨w.heap.size, 0, none⟩ = some (.int .i64 a) := BA5.cell 0
  have cA1_5 : w5.cell? ⟨w.heap.size, 1, none⟩ = some (.int .i64 a') := BA5.cell 1
  have lA5 := BA5.lt
  have lA5' : w.heap.size < w5.heap.size + 1 := by omega
  have cB0_5 : w5.cell? ⟨w.heap.size + 1, 0, none⟩ = some (.int .i64 b) := BB5.cell 0
  have cB1_5 : w5.cell? ⟨w.heap.size + 1, 1, none⟩ = some (.int .i64 b') := BB5.cell 1
  have lB5 := BB5.lt
  have lB5' : w.heap.size + 1 < w5.heap.size + 1 := by omega
  have cS0_5 : w5.cell? ⟨w1.heap.size, 0, none⟩ = some (.int .i64 p2) := BS5.cell 0
  have cS1_5 : w5.cell? ⟨w1.heap.size, 1, none⟩ = some (.int .i64 q2) := BS5.cell 1
  have lS5 := BS5.lt
  have lS5' : w1.heap.size < w5.heap.size + 1 := by omega
  have fS0_5 := BS5.frozen 0
  have fS1_5 := BS5.frozen 1
  have cT0_5 : w5.cell? ⟨w2.heap.size, 0, none⟩ = some (.int .i64 p2) := BT5.cell 0
  have cT1_5 : w5.cell? ⟨w2.heap.size, 1, none⟩ = some (.int .i64 q2) := BT5.cell 1
  have lT5 := BT5.lt
  have lT5' : w2.heap.size < w5.heap.size + 1 := by omega
  have fT0_5 := BT5.frozen 0
  have fT1_5 := BT5.frozen 1
  go_wp2_with fail
  refine (refMul_any (a, a') (b, b') _).mono ?_
  rintro e w6 ⟨rfl, hb6⟩
  rw [← M3.out]
  have BA6 : Blk w6 (w.heap.size) 23 #[.int .i64 a, .int .i64 a'] := ((BA5.far (show _ ≠ _ by simp only; omega) _).far (show _ ≠ _ by simp only; omega) _).kept hb6
  have BB6 : Blk w6 (w.heap.size + 1) 23 #[.int .i64 b, .int .i64 b'] := ((BB5.far (show _ ≠ _ by simp only; omega) _).far (show _ ≠ _ by simp only; omega) _).kept hb6
  have BS6 : Blk w6 (w1.heap.size) 23 #[.int .i64 p3, .int .i64 q3] := ((BS5.set_ 0 _).set_ 1 _).kept hb6
  have BT6 : Blk w6 (w2.heap.size) 23 #[.int .i64 p2, .int .i64 q2] := ((BT5.far (show _ ≠ _ by simp only; omega) _).far (show _ ≠ _ by simp only; omega) _).kept hb6
  have cA0_6 : w6.cell? ⟨w.heap.size, 0, none⟩ = some (.int .i64 a) := BA6.cell 0
  have cA1_6 : w6.cell? ⟨w.heap.size, 1, none⟩ = some (.int .i64 a') := BA6.cell 1
  have lA6 := BA6.lt
  have lA6' : w.heap.size < w6.heap.size + 1 := by omega
  have cB0_6 : w6.cell? ⟨w.heap.size + 1, 0, none⟩ = some (.int .i64 b) := BB6.cell 0
  have cB1_6 : w6.cell? ⟨w.heap.size + 1, 1, none⟩ = some (.int .i64 b') := BB6.cell 1
  have lB6 := BB6.lt
  have lB6' : w.heap.size + 1 < w6.heap.size + 1 := by omega
  have cS0_6 : w6.cell? ⟨w1.heap.size, 0, none⟩ = some (.int .i64 p3) := BS6.cell 0
  have cS1_6 : w6.cell? ⟨w1.heap.size, 1, none⟩ = some (.int .i64 q3) := BS6.cell 1
  have lS6 := BS6.lt
  have lS6' : w1.heap.size < w6.heap.size + 1 := by omega
  have fS0_6 := BS6.frozen 0
  have fS1_6 := BS6.frozen 1
  have cT0_6 : w6.cell? ⟨w2.heap.size, 0, none⟩ = some (.int .i64 p2) := BT6.cell 0
  have cT1_6 : w6.cell? ⟨w2.heap.size, 1, none⟩ = some (.int .i64 q2) := BT6.cell 1
  have lT6 := BT6.lt
  have lT6' : w2.heap.size < w6.heap.size + 1 := by omega
  have fT0_6 := BT6.frozen 0
  have fT1_6 := BT6.frozen 1
  go_wp2_with fail
  refine (div_any (a, a') (b, b') _).mono ?_
  rintro e w7 ⟨rfl, hb7⟩
  rw [← M4.out]
  have BA7 : Blk w7 (w.heap.size) 23 #[.int .i64 a, .int .i64 a'] := ((BA6.far (show _ ≠ _ by simp only; omega) _).far (show _ ≠ _ by simp only; omega) _).kept hb7
  have BB7 : Blk w7 (w.heap.size + 1) 23 #[.int .i64 b, .int .i64 b'] := ((BB6.far (show _ ≠ _ by simp only; omega) _).far (show _ ≠ _ by simp only; omega) _).kept hb7
  have BS7 : Blk w7 (w1.heap.size) 23 #[.int .i64 p3, .int .i64 q3] := ((BS6.far (show _ ≠ _ by simp only; omega) _).far (show _ ≠ _ by simp only; omega) _).kept hb7
  have BT7 : Blk w7 (w2.heap.size) 23 #[.int .i64 p3, .int .i64 q3] := ((BT6.set_ 0 _).set_ 1 _).kept hb7
  have cA0_7 : w7.cell? ⟨w.heap.size, 0, none⟩ = some (.int .i64 a) := BA7.cell 0
  have cA1_7 : w7.cell? ⟨w.heap.size, 1, none⟩ = some (.int .i64 a') := BA7.cell 1
  have lA7 := BA7.lt
  have lA7' : w.heap.size < w7.heap.size + 1 := by omega
  have cB0_7 : w7.cell? ⟨w.heap.size + 1, 0, none⟩ = some (.int .i64 b) := BB7.cell 0
  have cB1_7 : w7.cell? ⟨w.heap.size + 1, 1, none⟩ = some (.int .i64 b') := BB7.cell 1
  have lB7 := BB7.lt
  have lB7' : w.heap.size + 1 < w7.heap.size + 1 := by omega
  have cS0_7 : w7.cell? ⟨w1.heap.size, 0, none⟩ = some (.int .i64 p3) := BS7.cell 0
  have cS1_7 : w7.cell? ⟨w1.heap.size, 1, none⟩ = some (.int .i64 q3) := BS7.cell 1
  have lS7 := BS7.lt
  have lS7' : w1.heap.size < w7.heap.size + 1 := by omega
  have fS0_7 := BS7.frozen 0
  have fS1_7 := BS7.frozen 1
  have cT0_7 : w7.cell? ⟨w2.heap.size, 0, none⟩ = some (.int .i64 p3) := BT7.cell 0
  have cT1_7 : w7.cell? ⟨w2.heap.size, 1, none⟩ = some (.int .i64 q3) := BT7.cell 1
  have lT7 := BT7.lt
  have lT7' : w2.heap.size < w7.heap.size + 1 := by omega
  have fT0_7 := BT7.frozen 0
  have fT1_7 := BT7.frozen 1
  go_wp2_with fail
  refine (refDiv_any (a, a') (b, b') _).mono ?_
  rintro e w8 ⟨rfl, hb8⟩
  rw [← M4.out]
  have BA8 : Blk w8 (w.heap.size) 23 #[.int .i64 a, .int .i64 a'] := ((BA7.far (show _ ≠ _ by simp only; omega) _).far (show _ ≠ _ by simp only; omega) _).kept hb8
  have BB8 : Blk w8 (w.heap.size + 1) 23 #[.int .i64 b, .int .i64 b'] := ((BB7.far (show _ ≠ _ by simp only; omega) _).far (show _ ≠ _ by simp only; omega) _).kept hb8
  have BS8 : Blk w8 (w1.heap.size) 23 #[.int .i64 p4, .int .i64 q4] := ((BS7.set_ 0 _).set_ 1 _).kept hb8
  have BT8 : Blk w8 (w2.heap.size) 23 #[.int .i64 p3, .int .i64 q3] := ((BT7.far (show _ ≠ _ by simp only; omega) _).far (show _ ≠ _ by simp only; omega) _).kept hb8
  have cA0_8 : w8.cell? ⟨w.heap.size, 0, none⟩ = some (.int .i64 a) := BA8.cell 0
  have cA1_8 : w8.cell? ⟨w.heap.size, 1, none⟩ = some (.int .i64 a') := BA8.cell 1
  have lA8 := BA8.lt
  have lA8' : w.heap.size < w8.heap.size + 1 := by omega
  have cB0_8 : w8.cell? ⟨w.heap.size + 1, 0, none⟩ = some (.int .i64 b) := BB8.cell 0
  have cB1_8 : w8.cell? ⟨w.heap.size + 1, 1, none⟩ = some (.int .i64 b') := BB8.cell 1
  have lB8 := BB8.lt
  have lB8' : w.heap.size + 1 < w8.heap.size + 1 := by omega
  have cS0_8 : w8.cell? ⟨w1.heap.size, 0, none⟩ = some (.int .i64 p4) := BS8.cell 0
  have cS1_8 : w8.cell? ⟨w1.heap.size, 1, none⟩ = some (.int .i64 q4) := BS8.cell 1
  have lS8 := BS8.lt
  have lS8' : w1.heap.size < w8.heap.size + 1 := by omega
  have fS0_8 := BS8.frozen 0
  have fS1_8 := BS8.frozen 1
  have cT0_8 : w8.cell? ⟨w2.heap.size, 0, none⟩ = some (.int .i64 p3) := BT8.cell 0
  have cT1_8 : w8.cell? ⟨w2.heap.size, 1, none⟩ = some (.int .i64 q3) := BT8.cell 1
  have lT8 := BT8.lt
  have lT8' : w2.heap.size < w8.heap.size + 1 := by omega
  have fT0_8 := BT8.frozen 0
  have fT1_8 := BT8.frozen 1
  go_wp2_with fail
  refine (cmp_any (a, a') (b, b') _).mono ?_
  rintro e w9 ⟨rfl, hb9⟩
  rw [← M5.out]
  have BA9 : Blk w9 (w.heap.size) 23 #[.int .i64 a, .int .i64 a'] := ((BA8.far (show _ ≠ _ by simp only; omega) _).far (show _ ≠ _ by simp only; omega) _).kept hb9
  have BB9 : Blk w9 (w.heap.size + 1) 23 #[.int .i64 b, .int .i64 b'] := ((BB8.far (show _ ≠ _ by simp only; omega) _).far (show _ ≠ _ by simp only; omega) _).kept hb9
  have BS9 : Blk w9 (w1.heap.size) 23 #[.int .i64 p4, .int .i64 q4] := ((BS8.far (show _ ≠ _ by simp only; omega) _).far (show _ ≠ _ by simp only; omega) _).kept hb9
  have BT9 : Blk w9 (w2.heap.size) 23 #[.int .i64 p4, .int .i64 q4] := ((BT8.set_ 0 _).set_ 1 _).kept hb9
  have cA0_9 : w9.cell? ⟨w.heap.size, 0, none⟩ = some (.int .i64 a) := BA9.cell 0
  have cA1_9 : w9.cell? ⟨w.heap.size, 1, none⟩ = some (.int .i64 a') := BA9.cell 1
  have lA9 := BA9.lt
  have lA9' : w.heap.size < w9.heap.size + 1 := by omega
  have cB0_9 : w9.cell? ⟨w.heap.size + 1, 0, none⟩ = some (.int .i64 b) := BB9.cell 0
  have cB1_9 : w9.cell? ⟨w.heap.size + 1, 1, none⟩ = some (.int .i64 b') := BB9.cell 1
  have lB9 := BB9.lt
  have lB9' : w.heap.size + 1 < w9.heap.size + 1 := by omega
  have cS0_9 : w9.cell? ⟨w1.heap.size, 0, none⟩ = some (.int .i64 p4) := BS9.cell 0
  have cS1_9 : w9.cell? ⟨w1.heap.size, 1, none⟩ = some (.int .i64 q4) := BS9.cell 1
  have lS9 := BS9.lt
  have lS9' : w1.heap.size < w9.heap.size + 1 := by omega
  have fS0_9 := BS9.frozen 0
  have fS1_9 := BS9.frozen 1
  have cT0_9 : w9.cell? ⟨w2.heap.size, 0, none⟩ = some (.int .i64 p4) := BT9.cell 0
  have cT1_9 : w9.cell? ⟨w2.heap.size, 1, none⟩ = some (.int .i64 q4) := BT9.cell 1
  have lT9 := BT9.lt
  have lT9' : w2.heap.size < w9.heap.size + 1 := by omega
  have fT0_9 := BT9.frozen 0
  have fT1_9 := BT9.frozen 1
  go_wp2_with fail
  refine (refCmp_any (a, a') (b, b') _).mono ?_
  rintro e w10 ⟨rfl, hb10⟩
  rw [← M5.out]
  have BA10 : Blk w10 (w.heap.size) 23 #[.int .i64 a, .int .i64 a'] := BA9.kept hb10
  have BB10 : Blk w10 (w.heap.size + 1) 23 #[.int .i64 b, .int .i64 b'] := BB9.kept hb10
  have BS10 : Blk w10 (w1.heap.size) 23 #[.int .i64 p4, .int .i64 q4] := BS9.kept hb10
  have BT10 : Blk w10 (w2.heap.size) 23 #[.int .i64 p4, .int .i64 q4] := BT9.kept hb10
  have cA0_10 : w10.cell? ⟨w.heap.size, 0, none⟩ = some (.int .i64 a) := BA10.cell 0
  have cA1_10 : w10.cell? ⟨w.heap.size, 1, none⟩ = some (.int .i64 a') := BA10.cell 1
  have lA10 := BA10.lt
  have lA10' : w.heap.size < w10.heap.size + 1 := by omega
  have cB0_10 : w10.cell? ⟨w.heap.size + 1, 0, none⟩ = some (.int .i64 b) := BB10.cell 0
  have cB1_10 : w10.cell? ⟨w.heap.size + 1, 1, none⟩ = some (.int .i64 b') := BB10.cell 1
  have lB10 := BB10.lt
  have lB10' : w.heap.size + 1 < w10.heap.size + 1 := by omega
  have cS0_10 : w10.cell? ⟨w1.heap.size, 0, none⟩ = some (.int .i64 p4) := BS10.cell 0
  have cS1_10 : w10.cell? ⟨w1.heap.size, 1, none⟩ = some (.int .i64 q4) := BS10.cell 1
  have lS10 := BS10.lt
  have lS10' : w1.heap.size < w10.heap.size + 1 := by omega
  have fS0_10 := BS10.frozen 0
  have fS1_10 := BS10.frozen 1
  have cT0_10 : w10.cell? ⟨w2.heap.size, 0, none⟩ = some (.int .i64 p4) := BT10.cell 0
  have cT1_10 : w10.cell? ⟨w2.heap.size, 1, none⟩ = some (.int .i64 q4) := BT10.cell 1
  have lT10 := BT10.lt
  have lT10' : w2.heap.size < w10.heap.size + 1 := by omega
  have fT0_10 := BT10.frozen 0
  have fT1_10 := BT10.frozen 1
  go_wp2_with fail
  refine (awake_any _).mono ?_
  rintro e w11 ⟨rfl, hb11⟩
  go_wp2_with fail
  go_ret
  refine ⟨rfl, ?_⟩
  repeat (first | exact Below.refl _ _ | refine below_drewN ?_ _ | refine Below.drew ?_ | refine below_alloc ?_ _ | (refine below_call ?_ (by assumption)) | (refine Below.setCell ?_ ?_ _; rotate_left; (simp; try omega)))
end Go.Proofs.YtfafjdbdpbjklaaDoor
