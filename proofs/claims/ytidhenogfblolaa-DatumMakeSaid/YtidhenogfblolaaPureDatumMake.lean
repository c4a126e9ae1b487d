/- Truths, numbers, bytes as data are what the document says, and are of their types (DatumMake), at every number, every bits and every string. -/
import Derived.Test.YtidhenogfblolaaSayDatumMake
namespace Go.Proofs.Ytidhenogfblolaa.datumMake
open Go.RowKit Go.Proofs.YtidhenogfblolaaW.PrintWords Go.Proofs.YtidhenogfblolaaW.PrintLast Go.Proofs.YtidhenogfblolaaW.PrintMore Go.Proofs.Ytidhenogfblolaa.H Go.Proofs.YtidhenogfblolaaO
set_option linter.unusedVariables false
theorem pure_ : Pure := by
  intro n x s hn hx _
  have h1 : -9223372036854775808 ≤ n ∧ n ≤ 9223372036854775807 := by simpa [Lit.wf, IntKind.min, IntKind.max, IntKind.signed, IntKind.bits] using hn
  have h2 : 0 ≤ x ∧ x ≤ 18446744073709551615 := by simpa [Lit.wf, IntKind.min, IntKind.max, IntKind.signed, IntKind.bits] using hx
  unfold marquetrylaw09_DatumMake.f
  rw [if_pos ⟨h1, by omega, by omega⟩]
end Go.Proofs.Ytidhenogfblolaa.datumMake
