/- Texts of the claim, packed: DatAid. -/
import Derived.Lib.Strings
import Derived.Test.YtnbmgljcnbhinaaDoorZRecordsCheck7
import Derived.Test.YtnbmgljcnbhinaaDoorZRecordsCheck9
section
namespace Go.Proofs.YtnbmgljcnbhinaaDoor.DatAid
open Go.RowKit Go.Proofs.YtnbmgljcnbhinaaDoorW.PrintWords Go.Proofs.YtnbmgljcnbhinaaDoorW.PrintLast Go.Proofs.YtnbmgljcnbhinaaDoorW.PrintMore Go.Proofs.YtnbmgljcnbhinaaDoor.H
set_option linter.unusedVariables false
theorem size_nil {t : ByteArray} (h : t.toList = []) : t.size = 0 := by
  rw [Lib.toList_data] at h
  rw [← data_length, h]; rfl
theorem nil_size {t : ByteArray} (h : t.size = 0) : t.toList = [] := by
  rw [Lib.toList_data]
  rw [← data_length] at h
  exact List.length_eq_zero_iff.1 h
theorem fine_txt (k i : Int) (t : ByteArray) (h6 : k ≠ 6) (h7 : k ≠ 7) (ht : t.toList ≠ []) : datum_fine.v k i t = false := by
  unfold datum_fine.v
  split
  · rfl
  · simp [h6, h7, ht]
theorem ref_fine (k i : Int) (t : ByteArray) (hi : -9223372036854775808 ≤ i ∧ i ≤ 9223372036854775807) : marquetryref09_Fine.f 1 k i t = some (datum_fine.v k i t) := by
  unfold marquetryref09_Fine.f
  simp only [marquetryref09_Fine.j0]
  by_cases hb : k ≠ 6 ∧ k ≠ 7 ∧ t.toList ≠ []
  · rw [fine_txt k i t hb.1 hb.2.1 hb.2.2]
    have b7 : (k == 7) = false := beq_eq_false_iff_ne.mpr hb.2.1
    rw [if_neg hb.1, b7]
    simp [hb.2.2]
  unfold datum_fine.v kOf
  by_cases h6 : k = 6
  · subst h6
    by_cases hz : i = 0
    · subst hz
      by_cases hm : (t.size : Int) ≤ 1048576 <;> simp [hm]
    · have : ¬ (0 ≤ i ∧ i ≤ 0) := by omega
      by_cases h1 : 0 ≤ i
      · have h2 : ¬ i ≤ 0 := by omega
        simp [hz, h2]
      · simp [hz, h1]
  by_cases h7 : k = 7
  · subst h7
    by_cases hz : i = 0
    · subst hz
      by_cases hm : (t.size : Int) ≤ 1048576
      · by_cases ht : t.toList = []
        · have := size_nil ht
          simp [ht, this]
        · have : 0 < t.size := by
            rcases Nat.eq_zero_or_pos t.size with h | h
            · exact absurd (nil_size h) ht
            · exact h
          simp [hm, ht, this]
      · simp [hm]
    · by_cases h1 : 0 ≤ i
      · have h2 : ¬ i ≤ 0 := by omega
        simp [hz, h2]
      · simp [hz, h1]
  have b7 : (k == 7) = false := beq_eq_false_iff_ne.mpr h7
  rw [if_neg h6, b7]
  have ht : t.toList = [] := by
    by_cases ht : t.toList = []
    · exact ht
    · exact absurd ⟨h6, h7, ht⟩ hb
  · have hs := size_nil ht
    by_cases h0 : k = 0
    · subst h0
      by_cases hz : i = 0
      · subst hz; simp [ht, hs]
      · by_cases ho : i = 1
        · subst ho; simp [ht, hs]
        · by_cases h1 : 0 ≤ i
          · have h2 : ¬ i ≤ 1 := by omega
            simp [ht, hs, hz, ho, h2]
          · simp [ht, hs, hz, ho, h1]
    by_cases h1 : k = 1
    · subst h1
      by_cases ha : -2147483648 ≤ i <;> by_cases hb : i ≤ 2147483647 <;> simp [ht, hs, ha, hb]
    by_cases h4 : k = 4
    · subst h4
      by_cases ha : 0 ≤ i <;> by_cases hb : i ≤ 4294967295 <;> simp [ht, hs, ha, hb]
    by_cases h2 : k = 2
    · subst h2
      simp [ht, hs, hi.1, hi.2]
    by_cases h5 : k = 5
    · subst h5
      simp [ht, hs, hi.1, hi.2]
    simp [ht, h0, h1, h2, h4, h5, h6, h7]
theorem check_v (t s : Int) : datum_Check.v t s = if t = 0 ∨ t = 1 ∨ t = 2 ∨ t = 4 ∨ t = 5 ∨ t = 6 then (if s = 0 then 0 else 2) else if t = 7 then (if 1 ≤ s ∧ s ≤ 1048576 then 0 else 2) else 2 := by
  unfold datum_Check.v kOf
  by_cases h0 : t = 0
  · subst h0; simp
  by_cases h1 : t = 1
  · subst h1; simp
  by_cases h2 : t = 2
  · subst h2; simp
  by_cases h4 : t = 4
  · subst h4; simp
  by_cases h5 : t = 5
  · subst h5; simp
  by_cases h6 : t = 6
  · subst h6; simp
  by_cases h7 : t = 7
  · subst h7; simp
  simp [h0, h1, h2, h4, h5, h6, h7]
theorem ref_check (t s : Int) : marquetryref09_Check.f 1 t s = some (decide (datum_Check.v t s = 0)) := by
  rw [check_v]
  unfold marquetryref09_Check.f
  simp only [marquetryref09_Check.j0]
  by_cases h0 : t = 0
  · subst h0; by_cases hs : s = 0 <;> simp [hs]
  by_cases h1 : t = 1
  · subst h1; by_cases hs : s = 0 <;> simp [hs]
  by_cases h2 : t = 2
  · subst h2; by_cases hs : s = 0 <;> simp [hs]
  by_cases h4 : t = 4
  · subst h4; by_cases hs : s = 0 <;> simp [hs]
  by_cases h5 : t = 5
  · subst h5; by_cases hs : s = 0 <;> simp [hs]
  by_cases h6 : t = 6
  · subst h6; by_cases hs : s = 0 <;> simp [hs]
  by_cases h7 : t = 7
  · subst h7
    by_cases ha : 1 ≤ s <;> by_cases hb : s ≤ 1048576 <;> simp [ha, hb]
  simp [h0, h1, h2, h4, h5, h6, h7]
end Go.Proofs.YtnbmgljcnbhinaaDoor.DatAid
end
