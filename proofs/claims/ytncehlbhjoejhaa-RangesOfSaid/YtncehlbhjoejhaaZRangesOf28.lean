/- Texts of the claim, packed: PureRangesOf. -/
import Derived.Test.YtncehlbhjoejhaaZRangesOf4
import Derived.Test.YtncehlbhjoejhaaZRangesOf25
import Derived.Test.YtncehlbhjoejhaaZRangesOf27
section
/- What is known of data is what the document says (RangesOf), at every type, data and number of nothings. -/
namespace Go.Proofs.Ytncehlbhjoejhaa.rangesOf
open Go.RowKit Go.Proofs.YtncehlbhjoejhaaW.PrintWords Go.Proofs.YtncehlbhjoejhaaW.PrintLast Go.Proofs.YtncehlbhjoejhaaW.PrintMore Go.Proofs.Ytncehlbhjoejhaa.H Go.Proofs.YtncehlbhjoejhaaO Go.Proofs.Ytncehlbhjoejhaa.RngOrd Go.Proofs.Ytncehlbhjoejhaa.RngSnd Go.Proofs.Ytncehlbhjoejhaa.RngOf
set_option linter.unusedVariables false
set_option linter.unusedSimpArgs false
theorem bytes_at (l : List S29) (hlen : l.length ≤ 100) (hb : ∀ x ∈ l, x.f2.size ≤ 140737488351232) : ∀ d j K : Nat, ∀ n : Int, l.length = j + d → d < K → 0 ≤ n → n ≤ 150000000000000 → ∃ v, marquetrylaw22_bytes.l0 K l n (j : Int) = some v ∧ n ≤ v ∧ (v ≤ 10000 → ∀ x ∈ l.drop j, x.f2.size ≤ 10000) := by
  intro d
  induction d with
  | zero =>
    intro j K n hj hK h0 hn
    obtain ⟨K, rfl⟩ : ∃ K', K = K' + 1 := ⟨K - 1, by omega⟩
    refine ⟨n, ?_, Int.le_refl _, fun _ x hx => ?_⟩
    · simp only [marquetrylaw22_bytes.l0]
      rw [if_neg (by omega)]
    · rw [List.drop_eq_nil_of_le (by omega)] at hx
      cases hx
  | succ d ih =>
    intro j K n hj hK h0 hn
    obtain ⟨K, rfl⟩ : ∃ K', K = K' + 1 := ⟨K - 1, by omega⟩
    have hjl : j < l.length := by omega
    have hx := hb l[j] (List.getElem_mem hjl)
    by_cases h : n ≤ 10000
    · have hw : wrap64 (wrap64 (n + 1) + (l[j].f2.size : Int)) = n + 1 + l[j].f2.size := by unfold wrap64; omega
      obtain ⟨v, h1, h2, h3⟩ := ih (j + 1) K (n + 1 + l[j].f2.size) (by omega) (by omega) (by omega) (by omega)
      refine ⟨v, ?_, by omega, fun hv x hx2 => ?_⟩
      · simp only [marquetrylaw22_bytes.l0]
        rw [if_pos (by omega), if_pos h, if_pos (by omega), rd_at l j hjl, hw, RngOf.wrap_next j (by omega), h1]
      · rw [List.drop_eq_getElem_cons hjl] at hx2
        rcases List.mem_cons.mp hx2 with rfl | hx2
        · omega
        · exact h3 hv x hx2
    · refine ⟨n, ?_, Int.le_refl _, fun hv => absurd hv h⟩
      simp only [marquetrylaw22_bytes.l0]
      rw [if_pos (by omega), if_neg h]
theorem same_at (l : List S29) (hlen : l.length ≤ 100) : ∀ d j K : Nat, l.length = j + d → d < K → marquetryref09_SameAll.l0 K l l (j : Int) = some true := by
  intro d
  induction d with
  | zero =>
    intro j K hj hK
    obtain ⟨K, rfl⟩ : ∃ K', K = K' + 1 := ⟨K - 1, by omega⟩
    simp only [marquetryref09_SameAll.l0]
    rw [if_neg (by omega)]
  | succ d ih =>
    intro j K hj hK
    obtain ⟨K, rfl⟩ : ∃ K', K = K' + 1 := ⟨K - 1, by omega⟩
    simp only [marquetryref09_SameAll.l0]
    rw [if_pos (by omega), if_pos (by omega), if_pos (by omega), RngOf.wrap_next j (by omega), ih (j + 1) K (by omega) (by omega)]
    simp
theorem of_total (t0 t1 n : Int) (l : List S29) (hl : l.length ≤ 1000000) : ∃ v, ranges_Of.f t0 t1 l n = some v := by
  by_cases hc : datum_Check.v t0 t1 = 0
  · by_cases h0 : n < 0
    · exact ⟨noStats, by unfold ranges_Of.f; rw [if_pos hl, if_neg (not_not_intro hc), if_pos h0]⟩
    · by_cases h6 : n > 65536
      · exact ⟨noStats, by unfold ranges_Of.f; rw [if_pos hl, if_neg (not_not_intro hc), if_neg h0, if_pos h6]⟩
      · by_cases ha : l.any (fun x => !ofB t0 t1 x) = true
        · exact ⟨noStats, by unfold ranges_Of.f; rw [if_pos hl, if_neg (not_not_intro hc), if_neg h0, if_neg h6, if_pos ha]⟩
        · refine ⟨ofV t0 l n, of_f hl hc (by omega) (by omega) (fun x hx => ?_)⟩
          cases h : ofB t0 t1 x with
          | true => rfl
          | false => exact absurd (List.any_eq_true.mpr ⟨x, hx, by rw [h]; rfl⟩) ha
  · exact ⟨noStats, by unfold ranges_Of.f; rw [if_pos hl, if_pos hc]⟩
theorem pure_ : Pure := by
  intro y0 y1 y2 h0 h1 h2
  obtain ⟨t0, t1⟩ := y0
  refine ⟨50000, ?_⟩
  unfold marquetrylaw22_RangesOf.f
  simp only
  by_cases hl : y1.length > 100
  · rw [if_pos hl]
  · rw [if_neg hl]
    obtain ⟨v, hv, _, hsz⟩ := bytes_at y1 (by omega) (fun x hx => (h1.2.2 x hx).2.2) y1.length 0 50000 0 (by omega) (by omega) (by omega) (by omega)
    have hv' : marquetrylaw22_bytes.f 50000 y1 = some v := hv
    rw [hv']
    simp only [Option.bind_some]
    by_cases hb : v > 10000
    · rw [if_pos hb]
    · rw [if_neg hb]
      have hs : Small y1 := by
        intro x hx
        have hi := (h1.2.2 x hx).2.1
        refine ⟨by unfold inR; simpa [Lit.wf, IntKind.min, IntKind.max, IntKind.signed, IntKind.bits] using hi, hsz (by omega) x (by simpa using hx)⟩
      unfold marquetrylaw22_RangesOf.g
      obtain ⟨s, hs2⟩ := of_total t0 t1 y2 y1 (by omega)
      have hq : marquetryref09_SameAll.f 50000 y1 y1 = some true := by
        unfold marquetryref09_SameAll.f
        rw [if_pos rfl]
        exact same_at y1 (by omega) y1.length 0 50000 (by omega) (by omega)
      rw [refOf y1 hs (by omega) t0 t1 y2 50000 (by omega), hs2, hq]
      simp
end Go.Proofs.Ytncehlbhjoejhaa.rangesOf
end
