
/- The program's list of all dissonances. -/
import Derived.Test.YtmlcnmnpkemdpaaDoorDsPro
import Derived.Test.YtmlcnmnpkemdpaaDoorDsPlain
namespace Go.Proofs.YtmlcnmnpkemdpaaDoor
open Go.RowKit
def cDis (d : Dis) : List Value := [.int .i64 d.n, .int .i64 d.a, .int .i64 d.b, .int .i64 d.kind, .int .i64 d.treat]
def csDis (l : List Dis) : List Value := l.flatMap cDis
theorem csDis_append (l m : List Dis) : csDis (l ++ m) = csDis l ++ csDis m := by unfold csDis; rw [List.flatMap_append]
theorem csDis_len (l : List Dis) : (csDis l).length = l.length * 5 := flat_len cDis 5 (fun _ => rfl) l
theorem one_csDis (l : List Dis) : ∀ u ∈ csDis l, u.oneCell' = true := by
  intro u hu
  obtain ⟨t, _, ht⟩ := List.mem_flatMap.1 hu
  simp [cDis] at ht
  rcases ht with rfl | rfl | rfl | rfl | rfl <;> rfl
set_option maxRecDepth 100000 in
theorem dis_info : (Tryd.prog.info? 48).map (fun i => (i.zero, i.size, i.bytes)) = some (some (.agg #[.int .i64 0, .int .i64 0, .int .i64 0, .int .i64 0, .int .i64 0]), 5, 40) := by kernel_rfl
/-- A row of cells stands where a map is written to. -/
theorem own_map {w w' : World} {base size n : Nat} {e : TypeId} {v : Value} {xs : List Value} (h : w.ownsRow base e size v n xs) {b : Nat} (hb : some b ≠ v.ownBlock) (hg : w.grownBy w' (some b)) : w'.ownsRow base e size v n xs := by
  have hl := h.lt
  obtain ⟨h1, h3⟩ := h
  refine ⟨h1, ?_⟩
  rcases h3 with h3 | ⟨g, cap, cur, hv, hb2, hh, rest⟩
  · exact .inl h3
  · refine .inr ⟨g, cap, cur, hv, hb2, ?_, rest⟩
    rw [hg.block g (hl g (by rw [hv]; rfl)).2 (fun e => hb (by rw [← e, hv]; rfl))]
    exact hh
/-- A block of another type is no row's block. -/
theorem blk_row {w : World} {g : Nat} {t : TypeId} {cs : Array Value} (hg : Blk w g t cs) {base size n : Nat} {e : TypeId} {v : Value} {xs : List Value} (h : w.ownsRow base e size v n xs) (hne : t ≠ e) : some g ≠ v.ownBlock := by
  rcases h.2 with ⟨rfl, _⟩ | ⟨b, cap, cur, rfl, _, hh, _⟩
  · intro h; cases h
  · intro h
    have : g = b := by simpa [Value.ownBlock] using h
    subst this
    unfold Blk at hg
    rw [hg] at hh
    cases hh
    exact hne rfl
/-- What the map of met events says of the list so far. -/
def SeenF (l : List (List Ev)) (m : List Tm) (f : List Int → Int) (o : List Dis) : Prop := ∀ (a b : Nat) (i k : Int), 0 < f [(a : Int), i, (b : Int), k] ↔ ∃ d ∈ o, d.a = a ∧ d.b = b ∧ evI l m d.n.toNat a = i ∧ evI l m d.n.toNat b = k
theorem SeenF.met {l : List (List Ev)} {m : List Tm} {f : List Int → Int} {o : List Dis} (h : SeenF l m f o) (n a b : Nat) : metB l m n a b o = decide (0 < f [(a : Int), evI l m n a, (b : Int), evI l m n b]) := by
  rw [Bool.eq_iff_iff, decide_eq_true_eq, h]
  unfold metB
  rw [List.any_eq_true]
  constructor
  · rintro ⟨d, hd, hb⟩; exact ⟨d, hd, (metd_iff l m).1 hb⟩
  · rintro ⟨d, hd, hb⟩; exact ⟨d, hd, (metd_iff l m).2 hb⟩
theorem SeenF.next {l : List (List Ev)} {m : List Tm} {f : List Int → Int} {o : List Dis} (h : SeenF l m f o) (n a b : Nat) (x y : Int) : SeenF l m (upd f [(a : Int), evI l m n a, (b : Int), evI l m n b] ((n : Int) + 1)) (o ++ [⟨n, a, b, x, y⟩]) := by
  intro a' b' i k
  unfold upd
  by_cases he : [(a' : Int), i, (b' : Int), k] = [(a : Int), evI l m n a, (b : Int), evI l m n b]
  · rw [if_pos he]
    simp only [List.cons.injEq, and_true] at he
    obtain ⟨h1, h2, h3, h4⟩ := he
    obtain rfl : a' = a := by omega
    obtain rfl : b' = b := by omega
    refine ⟨fun _ => ⟨⟨n, a', b', x, y⟩, by simp, rfl, rfl, by simp [h2], by simp [h4]⟩, fun _ => by omega⟩
  · rw [if_neg he, h]
    constructor
    · rintro ⟨d, hd, hr⟩; exact ⟨d, List.mem_append_left _ hd, hr⟩
    · rintro ⟨d, hd, h1, h2, h3, h4⟩
      rcases List.mem_append.1 hd with hd | hd
      · exact ⟨d, hd, h1, h2, h3, h4⟩
      · exfalso
        rw [List.mem_singleton] at hd
        subst hd
        simp only [Int.toNat_natCast] at h1 h2 h3 h4
        refine he ?_
        have e1 : a' = a := by omega
        have e2 : b' = b := by omega
        subst e1 e2
        rw [h3, h4]
/-- Slice k in memory, with all its cells. -/
theorem SetR.slice5 {w : World} {g : Nat} {A S Q : Option Addr} {n c K d q : Nat} {l : List (List Ev)} (h : SetR w g A S Q n c K d q l) {k : Nat} (hk : k < K) (hn : 0 < n) :
    ∃ bs os be oe ce d0 d1, S = some ⟨bs, os, none⟩ ∧ bs < w.heap.size ∧ be < w.heap.size ∧ w.cell? ⟨bs, os + k * 5, none⟩ = some (.int .i64 (mAt (momS l) k).1) ∧ w.cell? ⟨bs, os + k * 5 + 1, none⟩ = some (.int .i64 (mAt (momS l) k).2) ∧
      w.cell? ⟨bs, os + k * 5 + 2, none⟩ = some (.int .i64 d0) ∧ w.cell? ⟨bs, os + k * 5 + 3, none⟩ = some (.int .i64 d1) ∧ w.cell? ⟨bs, os + k * 5 + 4, none⟩ = some (.slice (some ⟨be, oe, none⟩) n ce) ∧ ∀ i, i < n → w.cell? ⟨be, oe + i, none⟩ = some (.int .i64 (evI l (momS l) k i)) := by
  have hg : ((List.range K).map (slOf l (momS l)))[k]? = some (slOf l (momS l) k) := by rw [List.getElem?_map, List.getElem?_range hk]; rfl
  obtain ⟨bs, os, p, q, ce, hS, hbs, _, _, _, _, c2, c3, c4⟩ := h.stg.slices.el (Nat.le_refl _) (Below.refl _ _) hk hg
  obtain ⟨bs', os', be, oe, ce', hS', _, hbe, e0, e1, e4, y0⟩ := h.slice (Below.refl _ _) hk hn
  rw [hS] at hS'
  cases hS'
  exact ⟨bs, os, be, oe, ce', _, _, hS, hbs, hbe, e0, e1, c2, c3, e4, y0⟩
theorem SetR.some_voice {w : World} {g : Nat} {A S Q : Option Addr} {n c K d q : Nat} {l : List (List Ev)} (h : SetR w g A S Q n c K d q l) {k : Nat} (hk : k < K) : 0 < n := by
  rcases Nat.eq_zero_or_pos n with h0 | h0
  · have hl := h.stg.len
    have hm := h.stg.many
    have : l = [] := List.length_eq_zero_iff.1 (by omega)
    subst this
    have : (momS ([] : List (List Ev))).length = 0 := rfl
    omega
  · exact h0
/-- What the loops keep: the list so far at v, what the map says of it. -/
structure AllInv (w wr : World) (l : List (List Ev)) (v : Value) (o : List Dis) : Prop where
  low : Below w.heap.size w wr
  row : wr.ownsRow (w.heap.size + 1) 48 5 v o.length (csDis o)
  map : ∃ f, IntMap wr 109 4 w.heap.size o.length f ∧ SeenF l (momS l) f o
theorem AllInv.call {w wr wx : World} {l : List (List Ev)} {v : Value} {o : List Dis} (h : AllInv w wr l v o) (hb : Below wr.heap.size wr wx) : AllInv w wx l v o := by
  obtain ⟨f, m1, m2⟩ := h.map
  exact ⟨below_call h.low hb, own_call h.row hb, f, m1.call hb, m2⟩
theorem row_end (l : List (List Ev)) (m : List Tm) (n a b : Nat) (out : List Dis) : rowD l m n a b 0 out = out := rfl
theorem voices_end (l : List (List Ev)) (m : List Tm) (n a : Nat) (out : List Dis) : voicesD l m n a 0 out = out := rfl
theorem slices_end (l : List (List Ev)) (m : List Tm) (n : Nat) (out : List Dis) : slicesD l m n 0 out = out := rfl
theorem slices_next (l : List (List Ev)) (m : List Tm) {n K : Nat} (h : n < K) (out : List Dis) : slicesD l m n (K - n) out = slicesD l m (n + 1) (K - (n + 1)) (voicesD l m n 0 l.length out) := by
  rw [show K - n = (K - (n + 1)) + 1 by omega, slicesD]
theorem voices_next (l : List (List Ev)) (m : List Tm) (n : Nat) {a L : Nat} (hL : l.length = L) (h : a < L) (out : List Dis) : voicesD l m n a (L - a) out = voicesD l m n (a + 1) (L - (a + 1)) (rowD l m n a (a + 1) (L - (a + 1)) out) := by
  subst hL
  conv => lhs; rw [show l.length - a = (l.length - (a + 1)) + 1 by omega]
  rfl
theorem row_next (l : List (List Ev)) (m : List Tm) (n a : Nat) {b L : Nat} (h : b < L) (out : List Dis) : rowD l m n a b (L - b) out = rowD l m n a (b + 1) (L - (b + 1)) (addD l m n a b out) := by
  rw [show L - b = (L - (b + 1)) + 1 by omega, rowD]
def DissRet (L : List Dis) (w : World) (e : Ending) (w' : World) : Prop :=
  ∃ A c, e = .returned (.slice A L.length c) ∧ Reads w' w'.heap.size 5 A L.length (csDis L) ∧ Below w.heap.size w w'
set_option maxRecDepth 100000 in
set_option maxHeartbeats 8000000 in
theorem all_ok {w : World} {g : Nat} {A S Q : Option Addr} {n c K d q : Nat} {l : List (List Ev)} (h : SetR w g A S Q n c K d q l) (hT : Tabs w) :
    Calls Tryd.prog 41 #[.pointer (some ⟨g, 0, none⟩)] w fun e w' => DissRet (allD l (momS l)) w e w' := by
  have hmm := @run_makeMap Tryd.prog
  have g1 := h.c1
  have glt := h.lt
  obtain ⟨hK8, hn8⟩ := h.stg.big
  have HLN := Lib.hid h.stg.len
  have HC := Lib.hid (fun W (hW : Below w.heap.size w W) k a b (hk : k < K) (ha : a < n) (hb : b < n) => clash_ok (h.kept hW) hk ha hb)
  have HTR := Lib.hid (fun W (hW : Below w.heap.size w W) k a b (hk : k < K) (ha : a < n) (hb : b < n) => treat_ok (h.kept hW) hk ha hb (hT.kept hW))
  have HSL := Lib.hid (fun k (hk : k < K) => h.slice5 hk (h.some_voice hk))
  have HEV := Lib.hid (fun k (hk : k < K) i => h.evs hk i)
  obtain ⟨R, hR⟩ : ∃ z, z = allD l (momS l) := ⟨_, rfl⟩
  have HR := Lib.hid (show slicesD l (momS l) 0 (K - 0) [] = R by rw [hR, h.stg.many]; rfl)
  rw [← hR]
  obtain ⟨i0, hi0, hz0, hz1, hz2⟩ := info_parts dis_info
  clear h hT hR
  go_enter Tryd.func41, Tryd.ntmps41
  go_wp2_with fail
  obtain ⟨w0, hw0⟩ : ∃ x, x = w.alloc (.map #[] 0) := ⟨_, rfl⟩
  have inv0 : AllInv w w0 l (.slice none 0 0) [] := by
    rw [hw0]
    exact ⟨below_alloc (Below.refl _ _) _, ⟨rfl, .inl ⟨rfl, rfl⟩⟩, _, IntMap.made _ _ _, fun a b i k => ⟨fun h => by simp at h, fun ⟨d, hd, _⟩ => by cases hd⟩⟩
  rw [← hw0]
  clear hw0
  go_loopg [4, 5, 6, 7, 8, 9, 10, 17, 25] K (fun gh v _ _ _ _ _ _ x _ wr => ∃ (k : Nat) (o : List Dis), k + gh = K ∧ x = .int .i64 (k : Int) ∧ AllInv w wr l v o ∧ Hid (slicesD l (momS l) k (K - k) o = R) ∧ o.length ≤ k * 64)
  case atStart => exact ⟨0, [], by omega, by simp, inv0, HR, by simp⟩
  case round =>
    clear inv0 HR
    obtain ⟨k, o, hkg, rfl, inv, hres, hol⟩ := hrel
    have wk : IntKind.i64.wrap ((k : Int) + 1) = (k : Int) + 1 := IntWalk.i64_in _ (by omega)
    cases gk with
    | zero =>
      have hk : k = K := by omega
      subst hk
      have d0 : ¬ ((k : Int) < (k : Int)) := by omega
      obtain ⟨A1, c1, rfl, r1, _, _⟩ := own_reads inv.row
      have E := Lib.hid (show o = R by rw [← hres.out, Nat.sub_self]; rfl)
      have low := inv.low
      clear hkg hres hol inv
      go_wp2
      refine ret_of (by simp [results, Tryd.results41, go_sem, *]; repeat' (first | rfl | apply And.intro)) rfl ?_
      rw [← E.out]
      exact ⟨A1, c1, rfl, r1, low⟩
    | succ gh =>
      have hkK : k < K := by omega
      have d0 : (k : Int) < (K : Int) := by omega
      obtain ⟨bs, os, be, oe, ce, t0, t1, hS, hbs, hbe, c0, c1, c2, c3, c4, y0⟩ := HSL.out k hkK
      subst hS
      have HY := Lib.hid y0
      have low := inv.low
      have e0 := (low.cell (p := ⟨bs, os + k * 5, none⟩) hbs).trans c0
      have e1 := (low.cell (p := ⟨bs, os + k * 5 + 1, none⟩) hbs).trans c1
      have e2 := (low.cell (p := ⟨bs, os + k * 5 + 2, none⟩) hbs).trans c2
      have e3 := (low.cell (p := ⟨bs, os + k * 5 + 3, none⟩) hbs).trans c3
      have e4 := (low.cell (p := ⟨bs, os + k * 5 + 4, none⟩) hbs).trans c4
      have lbs : bs < wr.heap.size := by have := low.size; omega
      have hres2 := Lib.hid (show slicesD l (momS l) (k + 1) (K - (k + 1)) (voicesD l (momS l) k 0 (n - 0) o) = R by rw [← hres.out, slices_next l (momS l) hkK, HLN.out]; rfl)
      clear c0 c1 c2 c3 c4 y0 hres
      go_wp2_with fail
      obtain ⟨w5, hw5⟩ : ∃ x, x = wr.alloc (.cells #[.int .i64 (mAt (momS l) k).1, .int .i64 (mAt (momS l) k).2, .int .i64 t0, .int .i64 t1, .slice (some ⟨be, oe, none⟩) n ce] 77) := ⟨_, rfl⟩
      have B5 : Blk w5 wr.heap.size 77 #[.int .i64 (mAt (momS l) k).1, .int .i64 (mAt (momS l) k).2, .int .i64 t0, .int .i64 t1, .slice (some ⟨be, oe, none⟩) n ce] := by rw [hw5]; exact Blk.new _ _ _
      have inv5 : AllInv w w5 l u4 o := by rw [hw5]; exact inv.call (below_alloc (Below.refl _ _) _)
      rw [← hw5]
      obtain ⟨xb, hxb⟩ : ∃ x, x = wr.heap.size := ⟨_, rfl⟩
      rw [← hxb] at B5 ⊢
      have hxw : w.heap.size ≤ xb := by rw [hxb]; exact low.size
      clear hw5 hxb e0 e1 e2 e3 e4 lbs low inv
      have x4 := B5.cell 4
      have xl := B5.lt
      go_wp2_with fail
      go_loopg [4, 7, 8, 9, 10, 25] n (fun g2 v _ _ _ _ x wy => ∃ (a : Nat) (o' : List Dis), a + g2 = n ∧ x = .int .i64 (a : Int) ∧ AllInv w wy l v o' ∧ Blk wy xb 77 #[.int .i64 (mAt (momS l) k).1, .int .i64 (mAt (momS l) k).2, .int .i64 t0, .int .i64 t1, .slice (some ⟨be, oe, none⟩) n ce] ∧ Hid (slicesD l (momS l) (k + 1) (K - (k + 1)) (voicesD l (momS l) k a (n - a) o') = R) ∧ o'.length ≤ k * 64 + a * 8)
      case atStart => exact ⟨0, o, by omega, by simp, inv5, B5, hres2, by omega⟩
      case round =>
        clear inv5 B5 hres2 hol x4 xl
        obtain ⟨a, o, hag, rfl, inv, BX, hres, hol⟩ := hrel
        have wa : IntKind.i64.wrap ((a : Int) + 1) = (a : Int) + 1 := IntWalk.i64_in _ (by omega)
        cases gk with
        | zero =>
          have ha : a = n := by omega
          have d1 : ¬ ((a : Int) < (n : Int)) := by omega
          have HN := Lib.hid (show slicesD l (momS l) (k + 1) (K - (k + 1)) o = R by rw [← hres.out, ha, Nat.sub_self]; rfl)
          clear hres ha
          go_wp2
          go_roundg gh
          case measure => omega
          case rel => exact ⟨k + 1, o, by omega, by go_num, inv, HN, by omega⟩
        | succ g2 =>
          have han : a < n := by omega
          have d1 : (a : Int) < (n : Int) := by omega
          have e0 := (inv.low.cell (p := ⟨be, oe + a, none⟩) hbe).trans (HY.out a han)
          have lbe : be < wr.heap.size := by have := inv.low.size; omega
          have hres2 := Lib.hid (show slicesD l (momS l) (k + 1) (K - (k + 1)) (voicesD l (momS l) k (a + 1) (n - (a + 1)) (rowD l (momS l) k a (a + 1) (n - (a + 1)) o)) = R by rw [← hres.out, voices_next l (momS l) k HLN.out han])
          obtain ⟨ea, hea⟩ : ∃ z, z = evI l (momS l) k a := ⟨_, rfl⟩
          have HEA := Lib.hid hea
          rw [← hea] at e0
          clear hres hea
          go_wp2_with fail
          go_loopg [4, 9, 10] (n - (a + 1)) (fun g3 v x _ wz => ∃ (b : Nat) (o' : List Dis), b + g3 = n ∧ a < b ∧ x = .int .i64 (b : Int) ∧ AllInv w wz l v o' ∧ Blk wz xb 77 #[.int .i64 (mAt (momS l) k).1, .int .i64 (mAt (momS l) k).2, .int .i64 t0, .int .i64 t1, .slice (some ⟨be, oe, none⟩) n ce] ∧ Hid (slicesD l (momS l) (k + 1) (K - (k + 1)) (voicesD l (momS l) k (a + 1) (n - (a + 1)) (rowD l (momS l) k a b (n - b) o')) = R) ∧ o'.length ≤ k * 64 + a * 8 + b)
          case atStart => exact ⟨a + 1, o, by omega, by omega, by go_num, inv, BX, hres2, by omega⟩
          case round =>
            clear inv BX hres2 hol e0 lbe
            obtain ⟨b, o, hbg, hab, rfl, inv, BX, hres, hol⟩ := hrel
            have wb : IntKind.i64.wrap ((b : Int) + 1) = (b : Int) + 1 := IntWalk.i64_in _ (by omega)
            have x4 := BX.cell 4
            have xl := BX.lt
            cases gk with
            | zero =>
              have hb : b = n := by omega
              have d2 : ¬ ((b : Int) < (n : Int)) := by omega
              have HN := Lib.hid (show slicesD l (momS l) (k + 1) (K - (k + 1)) (voicesD l (momS l) k (a + 1) (n - (a + 1)) o) = R by rw [← hres.out, hb, Nat.sub_self]; rfl)
              clear hres hb
              go_wp2
              go_roundg g2
              case measure => omega
              case rel => exact ⟨a + 1, o, by omega, by go_num, inv, BX, HN, by omega⟩
            | succ g3 =>
              have hbn : b < n := by omega
              have d2 : (b : Int) < (n : Int) := by omega
              have e0 := (inv.low.cell (p := ⟨be, oe + b, none⟩) hbe).trans (HY.out b hbn)
              have lbe : be < wr.heap.size := by have := inv.low.size; omega
              have hres2 := Lib.hid (show slicesD l (momS l) (k + 1) (K - (k + 1)) (voicesD l (momS l) k (a + 1) (n - (a + 1)) (rowD l (momS l) k a (b + 1) (n - (b + 1)) (addD l (momS l) k a b o))) = R by rw [← hres.out, row_next l (momS l) k a hbn])
              obtain ⟨eb, heb⟩ : ∃ z, z = evI l (momS l) k b := ⟨_, rfl⟩
              rw [← heb] at e0
              have HEB := Lib.hid heb
              have eb1 := HEV.out k hkK a
              have eb2 := HEV.out k hkK b
              rw [← HEA.out] at eb1
              rw [← heb] at eb2
              obtain ⟨f, mp, sn⟩ := inv.map
              have HMET := Lib.hid (show metB l (momS l) k a b o = decide (0 < f [(a : Int), ea, (b : Int), eb]) by rw [sn.met, ← HEA.out, ← heb])
              have HNX := Lib.hid (fun x y => sn.next k a b x y)
              rw [← HEA.out, ← heb] at HNX
              have HADD := Lib.hid (show addD l (momS l) k a b o = if clE l (mAt (momS l) k) a b = 0 ∨ metB l (momS l) k a b o = true then o else o ++ [⟨k, a, b, clE l (mAt (momS l) k) a b, treatD l (momS l) k a b⟩] from rfl)
              have qc := fun W (hW : Below w.heap.size w W) => HC.out W hW k a b hkK han hbn
              have qt := fun W (hW : Below w.heap.size w W) => HTR.out W hW k a b hkK han hbn
              obtain ⟨cl, hcl⟩ : ∃ z, z = clE l (mAt (momS l) k) a b := ⟨_, rfl⟩
              obtain ⟨tr, htr⟩ : ∃ z, z = treatD l (momS l) k a b := ⟨_, rfl⟩
              rw [← hcl] at qc HADD
              rw [← htr] at qt HADD
              have HSN := Lib.hid sn
              clear heb hcl htr hres sn
              go_wp2_with fail
              obtain ⟨w4, hw4⟩ : ∃ x, x = wr.alloc (.cells #[.int .i64 (a : Int), .int .i64 ea, .int .i64 (b : Int), .int .i64 eb] 109) := ⟨_, rfl⟩
              have BK : Blk w4 wr.heap.size 109 #[.int .i64 (a : Int), .int .i64 ea, .int .i64 (b : Int), .int .i64 eb] := by rw [hw4]; exact Blk.new _ _ _
              have b4 : Below wr.heap.size wr w4 := by rw [hw4]; exact below_alloc (Below.refl _ _) _
              rw [← hw4]
              replace BX := BX.kept b4
              replace mp := mp.call b4
              have low4 := below_call inv.low b4
              have row4 := own_call inv.row b4
              clear hw4 x4 xl e0 lbe inv b4
              refine (qc w4 low4).mono ?_
              rintro e w5 ⟨rfl, b5⟩
              replace BX := BX.kept b5
              replace BK := BK.kept b5
              replace mp := mp.call b5
              have low5 := below_call low4 b5
              have row5 := own_call row4 b5
              clear b5 low4 row4
              by_cases hc : cl = 0
              · have HN := Lib.hid (show slicesD l (momS l) (k + 1) (K - (k + 1)) (voicesD l (momS l) k (a + 1) (n - (a + 1)) (rowD l (momS l) k a (b + 1) (n - (b + 1)) o)) = R by rw [← hres2.out, HADD.out, if_pos (.inl hc)])
                subst hc
                clear qc qt HADD HNX HMET hres2
                go_wp2
                go_roundg g3
                case measure => omega
                case rel => exact ⟨b + 1, o, by omega, by omega, by go_num, ⟨low5, row5, f, mp, HSN.out⟩, BX, HN, by omega⟩
              · have fc : (cl == 0) = false := by simpa using hc
                have HO := Lib.hid (show okK 4 [(a : Int), ea, (b : Int), eb] from ⟨rfl, by
                  intro z hz
                  simp only [List.mem_cons, List.not_mem_nil, or_false] at hz
                  unfold okI
                  rcases hz with rfl | rfl | rfl | rfl <;> omega⟩)
                have lk := mp.look key_met Tryd.underlying107 (ks := [(a : Int), ea, (b : Int), eb]) HO.out
                unfold keyV at lk
                simp only [List.map_cons, List.map_nil, List.toArray] at lk
                obtain ⟨fv, hfv⟩ : ∃ z, z = f [(a : Int), ea, (b : Int), eb] := ⟨_, rfl⟩
                rw [← hfv] at lk HMET
                have k0 := BK.cell 0
                have k1 := BK.cell 1
                have k2 := BK.cell 2
                have k3 := BK.cell 3
                have kl := BK.lt
                clear hfv
                by_cases hf : 0 < fv
                · have HN := Lib.hid (show slicesD l (momS l) (k + 1) (K - (k + 1)) (voicesD l (momS l) k (a + 1) (n - (a + 1)) (rowD l (momS l) k a (b + 1) (n - (b + 1)) o)) = R by rw [← hres2.out, HADD.out, if_pos (.inr (by rw [HMET.out]; exact decide_eq_true hf))])
                  clear qc qt HADD HNX HMET hres2
                  go_wp2
                  go_roundg g3
                  case measure => omega
                  case rel => exact ⟨b + 1, o, by omega, by omega, by go_num, ⟨low5, row5, f, mp, HSN.out⟩, BX, HN, by omega⟩
                · have HN := Lib.hid (show slicesD l (momS l) (k + 1) (K - (k + 1)) (voicesD l (momS l) k (a + 1) (n - (a + 1)) (rowD l (momS l) k a (b + 1) (n - (b + 1)) (o ++ [⟨k, a, b, cl, tr⟩]))) = R by
                    rw [← hres2.out, HADD.out, if_neg]
                    rintro (h | h)
                    · exact hc h
                    · rw [HMET.out] at h; exact hf (of_decide_eq_true h))
                  clear HADD HMET hres2
                  have hN : okI ((k : Int) + 1) := by unfold okI; omega
                  have hM : o.length < maxLen := by simp only [maxLen]; omega
                  go_wp2_with (refine wpList_put (T := 107) rfl (.tmp 60) (.tmp 61) (.tmp 63) rfl mp key_met Tryd.underlying107 hM [(a : Int), ea, (b : Int), eb] HO.out ((k : Int) + 1) hN rfl rfl rfl ?_
                               intro w6 m6 hg6)
                  have low6 : Below w.heap.size w w6 := Below.grown (B := w.heap.size) low5 hg6 low5.size (fun x hx => by cases hx; exact Nat.le_refl _)
                  have row6 := own_map row5 (fun e => by have := (row5.lt _ e.symm).1; omega) hg6
                  have BX6 : Blk w6 xb 77 #[.int .i64 (mAt (momS l) k).1, .int .i64 (mAt (momS l) k).2, .int .i64 t0, .int .i64 t1, .slice (some ⟨be, oe, none⟩) n ce] := Blk.grown_ BX hg6 (fun e => by cases e; exact absurd rfl (map_blk mp BX))
                  clear BX BK k0 k1 k2 k3 kl lk mp low5 row5 hg6
                  refine (qc w6 low6).mono ?_
                  rintro e w7 ⟨rfl, b7⟩
                  have low7 := below_call low6 b7
                  go_wp2_with fail
                  refine (qt w7 low7).mono ?_
                  rintro e w8 ⟨rfl, b8⟩
                  have b78 := below_call b7 b8
                  have low8 := below_call low7 b8
                  have row8 := own_call row6 b78
                  have m8 := m6.call b78
                  have BX8 := BX6.kept b78
                  have sn8 := HNX.out cl tr
                  clear b7 b8 b78 low6 low7 row6 m6 BX6 qc qt HNX
                  obtain ⟨N, hN2⟩ : ∃ N, N = o.length := ⟨_, rfl⟩
                  have HNN := Lib.hid hN2
                  rw [← hN2] at row8 hol m8 hM
                  have kz := low8.size
                  clear hN2
                  go_wp2_with (at_builtin; (refine wpList_append_any _ rfl (.tmp 64) (.tmp 79) 44 rfl (w.heap.size + 1) 48 i0 _ 5 40 Tryd.underlying44 hi0 hz0 hz1 hz2 rfl (by omega) u4 N (csDis o) rfl (own_call row8 (below_alloc (Below.refl _ _) _)) (w8.heap.size + 1) (some ⟨w8.heap.size, 0, none⟩) 1 1 (csDis [⟨k, a, b, cl, tr⟩]) rfl (Reads.newAt _ _ _ 1 5 _ rfl rfl) (one_csDis _) (by simp only [maxLen]; omega) (by omega) (by simp; omega) ?_); intro v9 w9 hown9 hg9 hat9)
                  have rowA := own_call row8 (below_alloc (Below.refl w8.heap.size w8) (.cells #[.int .i64 (k : Int), .int .i64 (a : Int), .int .i64 (b : Int), .int .i64 cl, .int .i64 tr] 48))
                  have low9 : Below w.heap.size w w9 := Below.grown (B := w.heap.size) (low8.alloc (by omega) _) hg9 (by simp; omega) (fun x hx => by have := (row8.lt x hx).1; omega)
                  have mA := m8.call (below_alloc (Below.refl w8.heap.size w8) (.cells #[.int .i64 (k : Int), .int .i64 (a : Int), .int .i64 (b : Int), .int .i64 cl, .int .i64 tr] 48))
                  have m9 := mA.grown hg9 (map_row mA rowA)
                  have BA : Blk (w8.alloc (.cells #[.int .i64 (k : Int), .int .i64 (a : Int), .int .i64 (b : Int), .int .i64 cl, .int .i64 tr] 48)) xb 77 #[.int .i64 (mAt (momS l) k).1, .int .i64 (mAt (momS l) k).2, .int .i64 t0, .int .i64 t1, .slice (some ⟨be, oe, none⟩) n ce] := BX8.alloc _
                  have BX9 : Blk w9 xb 77 #[.int .i64 (mAt (momS l) k).1, .int .i64 (mAt (momS l) k).2, .int .i64 t0, .int .i64 t1, .slice (some ⟨be, oe, none⟩) n ce] := Blk.grown_ BA hg9 (blk_row BA rowA (by decide))
                  go_roundg g3
                  case measure => omega
                  case rel => exact ⟨b + 1, o ++ [⟨k, a, b, cl, tr⟩], by omega, by omega, by go_num, ⟨low9, by rw [List.length_append, List.length_singleton, ← HNN.out, csDis_append]; exact hown9, _, by rw [List.length_append, List.length_singleton, ← HNN.out]; exact m9, sn8⟩, BX9, HN, by rw [List.length_append, List.length_singleton, ← HNN.out]; omega⟩
end Go.Proofs.YtmlcnmnpkemdpaaDoor
