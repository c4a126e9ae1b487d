/- Texts of the claim, packed: DatAid. -/
import Derived.Lib.Strings
import Derived.Test.YtncehlbhjoejhaaZRangesParts4
import Derived.Test.YtncehlbhjoejhaaZRangesParts6
section
namespace Go.Proofs.Ytncehlbhjoejhaa.DatAid
open Go.RowKit Go.Proofs.YtncehlbhjoejhaaW.PrintWords Go.Proofs.YtncehlbhjoejhaaW.PrintLast Go.Proofs.YtncehlbhjoejhaaW.PrintMore Go.Proofs.Ytncehlbhjoejhaa.H
set_option linter.unusedVariables false
theorem size_nil {t : ByteArray} (h : t.toList = []) : t.size = 0 := by
  rw [Lib.toList_data] at h
  rw [← data_length, h]; rfl
theorem nil_size {t : ByteArray} (h : t.size = 0) : t.toList = [] := by
  rw [Lib.toList_data]
  rw [← data_length] at h
  exact List.length_eq_zero_iff.1 h
theorem check_v (t s : Int) : datum_Check.v t s = if t = 0 ∨ t = 1 ∨ t = 2 ∨ t = 4 ∨ t = 5 ∨ t = 6 then (if s = 0 then 0 else 2) else if t = 7 then (if 1 ≤ s ∧ s ≤ 1048576 then 0 else 2) else 2 := by
  unfold datum_Check.v kOf
  by_cases h0 : t = 0
  · subst h0; simp
  by_cases h1 : t = 1
  · subst h1; simp
  by_cases h2 : t = 2
  · subst h2; simp
  by_cases h4 : t = 4
  · subst h4; simp
  by_cases h5 : t = 5
  · subst h5; simp
  by_cases h6 : t = 6
  · subst h6; simp
  by_cases h7 : t = 7
  · subst h7; simp
  simp [h0, h1, h2, h4, h5, h6, h7]
end Go.Proofs.Ytncehlbhjoejhaa.DatAid
end
