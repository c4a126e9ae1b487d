-- Laid by this session's hprint.py: what is left to prove of a law. Not trusted: Lean checks it.
import Derived.Test.YtedmambdlkogdaaOpen
import Derived.Test.YtedmambdlkogdaaH23
namespace Go.Proofs.Ytedmambdlkogdaa.sumsCrc
open Go.RowKit Go.Proofs.YtedmambdlkogdaaW.PrintWords Go.Proofs.YtedmambdlkogdaaW.PrintLast Go.Proofs.YtedmambdlkogdaaW.PrintMore Go.Proofs.Ytedmambdlkogdaa.H Go.Proofs.YtedmambdlkogdaaO
set_option linter.unusedVariables false
def Pure : Prop := ∀ (y0 : List Int), (fun l => l.length ≤ maxLen ∧ l.length * 1 ≤ 140737488351232 ∧ ∀ x ∈ l, (fun x => (Lit.int .u8 x).wf = true) x) y0 → ∃ k, marquetrylaw02_SumsCrc.f k y0 = some true
end Go.Proofs.Ytedmambdlkogdaa.sumsCrc
