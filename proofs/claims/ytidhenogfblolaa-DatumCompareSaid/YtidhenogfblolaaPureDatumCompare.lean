/- datum.Compare tells of every two data what the document's Compare tells (DatumCompare). -/
import Derived.Test.YtidhenogfblolaaSayDatumCompare
import Derived.Test.YtidhenogfblolaaCmpAid
namespace Go.Proofs.Ytidhenogfblolaa.datumCompare
open Go.RowKit Go.Proofs.YtidhenogfblolaaW.PrintWords Go.Proofs.YtidhenogfblolaaW.PrintLast Go.Proofs.YtidhenogfblolaaW.PrintMore Go.Proofs.Ytidhenogfblolaa.H Go.Proofs.YtidhenogfblolaaO Go.Proofs.Ytidhenogfblolaa.DatAid Go.Proofs.Ytidhenogfblolaa.CmpAid
set_option linter.unusedVariables false
theorem wrap_next (i : Nat) (h : i < 1000000000000000) : wrap64 ((i : Int) + 1) = ((i + 1 : Nat) : Int) := by
  unfold wrap64
  omega
theorem toList_len (a : ByteArray) : a.toList.length = a.size := by rw [Lib.toList_data, data_length]
theorem bt_get (a : ByteArray) (i : Nat) (h : i < a.size) (h' : i < a.toList.length) : bt a (i : Int) = ((a.toList[i]).toNat : Int) := by
  unfold bt
  rw [dif_pos (show ((i : Int)).toNat < a.size by omega)]
  simp only [Lib.toList_data]
  rfl
theorem texts_loop (a b : ByteArray) (ha : a.size ≤ 140737488351232) : ∀ d i K : Nat, a.size = i + d → i ≤ b.size → 2 * d + 2 < K → marquetryref09_Texts.l0 K a b (i : Int) = some (sc (a.toList.drop i) (b.toList.drop i)) := by
  intro d
  induction d with
  | zero =>
    intro i K hi hb hK
    obtain ⟨K', rfl⟩ : ∃ K', K = K' + 2 := ⟨K - 2, by omega⟩
    simp only [marquetryref09_Texts.l0, marquetryref09_Texts.j1]
    rw [if_neg (by omega : ¬ (i : Int) < (a.size : Int)), if_neg (by decide)]
    have e1 : a.toList.drop i = [] := List.drop_eq_nil_of_le (by rw [toList_len]; omega)
    rw [e1]
    by_cases h : i < b.size
    · rw [if_pos (by omega), List.drop_eq_getElem_cons (by rw [toList_len]; exact h)]
      rfl
    · rw [if_neg (by omega), if_neg (by omega), List.drop_eq_nil_of_le (by rw [toList_len]; omega)]
      rfl
  | succ d ih =>
    intro i K hi hb hK
    obtain ⟨K', rfl⟩ : ∃ K', K = K' + 2 := ⟨K - 2, by omega⟩
    have hia : i < a.toList.length := by rw [toList_len]; omega
    simp only [marquetryref09_Texts.l0, marquetryref09_Texts.j1]
    rw [if_pos (by omega : (i : Int) < (a.size : Int)), List.drop_eq_getElem_cons hia]
    by_cases h : i < b.size
    · have hib : i < b.toList.length := by rw [toList_len]; exact h
      rw [decide_eq_true (by omega : (i : Int) < (b.size : Int)), if_pos rfl, if_pos (by omega : 0 ≤ (i : Int)), if_pos (by omega : (i : Int) < (a.size : Int)), if_pos (by omega : (i : Int) < (b.size : Int)), wrap_next i (by omega), ih (i + 1) K' (by omega) (by omega) (by omega), List.drop_eq_getElem_cons hib, bt_get a i (by omega) hia, bt_get b i h hib]
      simp only [sc]
      have t : ∀ x y : UInt8, (x < y) ↔ x.toNat < y.toNat := fun x y => Iff.rfl
      by_cases h1 : (a.toList[i]).toNat < (b.toList[i]).toNat
      · rw [if_pos (by omega), if_pos ((t _ _).2 h1)]
      · rw [if_neg (by omega), if_neg (fun h => h1 ((t _ _).1 h))]
        by_cases h2 : (b.toList[i]).toNat < (a.toList[i]).toNat
        · rw [if_pos (by omega), if_pos ((t _ _).2 h2)]
        · rw [if_neg (by omega), if_neg (fun h => h2 ((t _ _).1 h))]
    · rw [decide_eq_false (by omega : ¬ (i : Int) < (b.size : Int)), if_neg (by decide), if_neg (by omega), if_pos (by omega), List.drop_eq_nil_of_le (by rw [toList_len]; omega : b.toList.length ≤ i)]
      rfl
theorem texts (a b : ByteArray) (ha : a.size ≤ 140737488351232) : marquetryref09_Texts.f (2 * a.size + 3) a b = some (strI a.toList b.toList) := by
  rw [strI_sc]
  exact texts_loop a b ha a.size 0 _ (by omega) (by omega) (by omega)
theorem int_f (a b : Int) : datum_order_int64.f a b = some (if a < b then -1 else if a > b then 1 else 0, true) := by
  unfold datum_order_int64.f cmp_Compare_int64.f cmp_isNaN_int64.f
  have h1 : (a != a) = false := by simp
  have h2 : (b != b) = false := by simp
  simp only [h1, h2]
  by_cases h : a < b
  · simp [h]
  · by_cases h' : a > b
    · simp [h, h']
    · simp [h, h']
theorem pure_ : Pure := by
  intro y0 y1 h0 h1
  obtain ⟨k1, i1, t1⟩ := y0
  obtain ⟨k2, i2, t2⟩ := y1
  obtain ⟨_, hi1, ht1⟩ := h0
  obtain ⟨_, hi2, ht2⟩ := h1
  have r1 : inR i1 := by unfold inR; simpa [Lit.wf, IntKind.min, IntKind.max, IntKind.signed, IntKind.bits] using hi1
  have r2 : inR i2 := by unfold inR; simpa [Lit.wf, IntKind.min, IntKind.max, IntKind.signed, IntKind.bits] using hi2
  refine ⟨2 * t1.size + 3, ?_⟩
  have e : ∃ v, datum_Compare.f k1 i1 t1 k2 i2 t2 = some v ∧ marquetryref09_Compare.f (2 * t1.size + 3) k1 i1 t1 k2 i2 t2 = some v := by
    have er : marquetryref09_Compare.f (2 * t1.size + 3) k1 i1 t1 k2 i2 t2 = refCmp (marquetryref09_Texts.f (2 * t1.size + 3) t1 t2) k1 i1 t1 k2 i2 t2 := by
      unfold marquetryref09_Compare.f
      rw [if_pos ⟨r1, r2⟩]
    rw [er]
    unfold datum_Compare.f refCmp
    by_cases h : datum_fine.v k1 i1 t1 = false ∨ datum_fine.v k2 i2 t2 = false ∨ k1 ≠ k2
    · rw [if_pos h, if_pos (h.elim Or.inl (fun h => h.elim (fun h => Or.inr (Or.inl h)) (fun h => Or.inr (Or.inr (Or.inl h)))))]
      exact ⟨_, rfl, rfl⟩
    · have hf1 : datum_fine.v k1 i1 t1 = true := by
        cases hq : datum_fine.v k1 i1 t1 with
        | true => rfl
        | false => exact absurd (Or.inl hq) h
      have hf2 : datum_fine.v k2 i2 t2 = true := by
        cases hq : datum_fine.v k2 i2 t2 with
        | true => rfl
        | false => exact absurd (Or.inr (Or.inl hq)) h
      have hk : k1 = k2 := by
        by_cases hq : k1 = k2
        · exact hq
        · exact absurd (Or.inr (Or.inr hq)) h
      subst hk
      rw [if_neg (show ¬ (datum_fine.v k1 i1 t1 = false ∨ datum_fine.v k1 i2 t2 = false ∨ k1 ≠ k1) from h)]
      have hR1 : isReal k1 i1 t1 = (decide (k1 = 4) || decide (k1 = 5)) := by unfold isReal; rw [hf1, Bool.true_and]
      have hR2 : isReal k1 i2 t2 = (decide (k1 = 4) || decide (k1 = 5)) := by unfold isReal; rw [hf2, Bool.true_and]
      rw [hR1, hR2, hf1, hf2]
      by_cases h45 : k1 = 4 ∨ k1 = 5
      · have h67 : ¬ (k1 = 6 ∨ k1 = 7) := by omega
        have hd : (decide (k1 = 4) || decide (k1 = 5)) = true := by simpa using h45
        rw [hd]
        by_cases hn : nanD k1 i1 = true ∨ nanD k1 i2 = true
        · exact ⟨(0, false), by rw [if_pos (by rcases hn with hn | hn <;> simp [hn])], by rw [if_neg h67, if_pos h45, if_pos hn]⟩
        · exact ⟨(fcmpI (rbits k1 i1) (rbits k1 i2), true), by rw [if_neg (by simp at hn ⊢; exact hn), if_pos h45], by rw [if_neg h67, if_pos h45, if_neg hn]⟩
      · have hd : (decide (k1 = 4) || decide (k1 = 5)) = false := by simpa using h45
        rw [hd]
        by_cases h67 : k1 = 6 ∨ k1 = 7
        · exact ⟨(strI t1.toList t2.toList, true), by rw [if_neg (by simp), if_neg h45, if_pos h67]; rfl, by rw [if_pos h67, texts t1 t2 ht1]; rfl⟩
        · exact ⟨_, by rw [if_neg (by simp), if_neg h45, if_neg h67, int_f], by rw [if_neg h67, if_neg h45]⟩
  obtain ⟨v, e1, e2⟩ := e
  unfold marquetrylaw09_DatumCompare.f
  rw [bind_of e1, bind_of e2]
  simp
end Go.Proofs.Ytidhenogfblolaa.datumCompare
