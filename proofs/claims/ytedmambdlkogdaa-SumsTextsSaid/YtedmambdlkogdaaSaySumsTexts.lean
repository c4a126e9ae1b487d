-- Laid by this session's hprint.py: what is left to prove of a law. Not trusted: Lean checks it.
import Derived.Test.YtedmambdlkogdaaOpen
import Derived.Test.YtedmambdlkogdaaH15
namespace Go.Proofs.Ytedmambdlkogdaa.sumsTexts
open Go.RowKit Go.Proofs.YtedmambdlkogdaaW.PrintWords Go.Proofs.YtedmambdlkogdaaW.PrintLast Go.Proofs.YtedmambdlkogdaaW.PrintMore Go.Proofs.Ytedmambdlkogdaa.H Go.Proofs.YtedmambdlkogdaaO
set_option linter.unusedVariables false
def Pure : Prop := ∀ (y0 : Int), (fun x => (Lit.int .u32 x).wf = true) y0 → ∃ k, marquetrylaw02_SumsTexts.f k y0 = some true
end Go.Proofs.Ytedmambdlkogdaa.sumsTexts
