/- Plain mathematics: what TransformParts says of voices made of numbers. -/
import Derived.Test.YtiphacmmglohaaaBackFacts
import Derived.Test.YtiphacmmglohaaaKitS
namespace Go.Proofs.Ytiphacmmglohaaa
theorem parts_facts25 (l l' : List Int) (n : Int) : ∃ (F FX G T : Int × Int) (J Dl : List Ev), J.length ≤ 24 ∧ Dl.length ≤ 13 ∧ ok F ∧ ok FX ∧ ok (spS n) ∧
    endT (voiceS 12 l) = F ∧ endT (voiceS 12 l') = FX ∧ plusS F FX = G ∧ joinS (voiceS 12 l) (voiceS 12 l') = (J, 0) ∧ cutS J (0, 1) F = (voiceS 12 l, 0) ∧ cutS J F G = (voiceS 12 l', 0) ∧ endS J = (G.1, G.2, 0) ∧
    plusS F (spS n) = T ∧ delayS (voiceS 12 l) (spS n) = (Dl, 0) ∧ endS Dl = (T.1, T.2, 0) ∧ cutS Dl (spS n) T = (voiceS 12 l, 0) ∧
    (∀ x, (voiceS 12 l).getLast? = some x → ok x.at_ ∧ ok x.dur) ∧ (∀ x, (voiceS 12 l').getLast? = some x → ok x.at_ ∧ ok x.dur) := by
  have z1 := z_small 12 l; have z2 := z_len 12 l
  have y1 := z_small 12 l'; have y2 := z_len 12 l'
  have hf := sfit z1 (by omega)
  have hg := sfit y1 (by omega)
  obtain ⟨s0, s1⟩ := sum_small z1 (by omega)
  obtain ⟨t0, t1⟩ := sum_small y1 (by omega)
  obtain ⟨b1, b2, b3, _, _⟩ := spS_24 n
  have b1' : spS n = cq 24 (k24 n) := b1
  have i1 := inq_of okq24 s0 (show sumM (voiceZ 0 (l.take 12)) ≤ 1099511627776 by omega)
  have i2 := inq_of okq24 t0 (show sumM (voiceZ 0 (l'.take 12)) ≤ 1099511627776 by omega)
  have i3 := inq_of okq24 (show 0 ≤ sumM (voiceZ 0 (l.take 12)) + sumM (voiceZ 0 (l'.take 12)) by omega) (by omega)
  have i4 := inq_of okq24 (show 0 ≤ k24 n by omega) (show k24 n ≤ 1099511627776 by omega)
  have i5 := inq_of okq24 (show 0 ≤ sumM (voiceZ 0 (l.take 12)) + k24 n by omega) (by omega)
  have hl : voiceS 12 l = lay 24 0 (voiceZ 0 (l.take 12)) := rfl
  have hl' : voiceS 12 l' = lay 24 0 (voiceZ 0 (l'.take 12)) := rfl
  rw [hl, hl', b1']
  generalize voiceZ 0 (l.take 12) = z at *
  generalize voiceZ 0 (l'.take 12) = z' at *
  generalize k24 n = j at *
  have fa := fit_append hf hg (by omega) (by omega)
  have fr := fit_rest hf (j := j) (by omega) (by omega) (by omega)
  have e1 := cut_lay okq24 (a := []) (b := z) (c := z') fa
  have e2 := cut_lay okq24 (a := z) (b := z') (c := []) (by rw [List.append_nil]; exact fa)
  have e3 := cut_lay okq24 (a := [(j, restP)]) (b := z) (c := []) (by rw [List.append_nil]; exact fr)
  rw [List.append_nil] at e2 e3
  rw [sumM_nil, Int.zero_add, cq_zero (by omega) (by omega)] at e1
  rw [sumM_cons, sumM_nil, Int.add_zero] at e3
  have n1 := end_lay okq24 fa
  rw [sumM_append] at n1
  have n2 := end_lay okq24 fr
  rw [sumM_cons, Int.add_comm] at n2
  rw [Int.add_comm j] at e3
  obtain ⟨h1, h2⟩ := endT_lay okq24 hf
  obtain ⟨h3, h4⟩ := endT_lay okq24 hg
  exact ⟨cq 24 (sumM z), cq 24 (sumM z'), cq 24 (sumM z + sumM z'), cq 24 (sumM z + j), lay 24 0 (z ++ z'), lay 24 0 ((j, restP) :: z), by rw [lay_len, List.length_append]; omega, by rw [lay_len, List.length_cons]; omega,
    (cq_ok i1).1, (cq_ok i2).1, (cq_ok i4).1, h1, h3, plus_cq i1 i2 i3, join_lay okq24 hf hg (by omega) (by omega), e1, e2, n1, plus_cq i1 i4 i5, delay_lay okq24 hf (by omega) (by omega) (by omega), n2, e3, h2, h4⟩
end Go.Proofs.Ytiphacmmglohaaa
