/- datum.Of tells just where the document's Of does that a datum is of a type (DatumOf), at every datum and every type. -/
import Derived.Test.YtidhenogfblolaaSayDatumOf
import Derived.Test.YtidhenogfblolaaDatAid
namespace Go.Proofs.Ytidhenogfblolaa.datumOf
open Go.RowKit Go.Proofs.YtidhenogfblolaaW.PrintWords Go.Proofs.YtidhenogfblolaaW.PrintLast Go.Proofs.YtidhenogfblolaaW.PrintMore Go.Proofs.Ytidhenogfblolaa.H Go.Proofs.YtidhenogfblolaaO Go.Proofs.Ytidhenogfblolaa.DatAid
set_option linter.unusedVariables false
theorem pure_ : Pure := by
  intro y0 y1 h0 _
  obtain ⟨k, i, t⟩ := y0
  obtain ⟨k1, s1⟩ := y1
  obtain ⟨_, hi, _⟩ := h0
  have hi2 : -9223372036854775808 ≤ i ∧ i ≤ 9223372036854775807 := by simpa [Lit.wf, IntKind.min, IntKind.max, IntKind.signed, IntKind.bits] using hi
  refine ⟨1, ?_⟩
  unfold marquetrylaw09_DatumOf.f datum_Of.f marquetryref09_Of.f
  have e1 : datum_Check.f k1 s1 = some (datum_Check.v k1 s1) := rfl
  have e2 : datum_fine.f k i t = some (datum_fine.v k i t) := rfl
  have e3 := ref_check k1 s1
  have e4 := ref_fine k i t hi2
  simp only []
  rw [e1, e2, e3, e4]
  generalize datum_Check.v k1 s1 = c
  generalize datum_fine.v k i t = f
  by_cases hc : c = 0
  · subst hc
    cases f
    · rfl
    · by_cases hk : k = k1
      · by_cases h7 : k1 = 7 <;> simp [hk, h7]
      · simp [hk]
  · simp [hc]
end Go.Proofs.Ytidhenogfblolaa.datumOf
