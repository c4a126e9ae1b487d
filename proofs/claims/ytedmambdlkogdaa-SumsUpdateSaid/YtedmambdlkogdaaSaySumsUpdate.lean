-- Laid by this session's hprint.py: what is left to prove of a law. Not trusted: Lean checks it.
import Derived.Test.YtedmambdlkogdaaOpen
import Derived.Test.YtedmambdlkogdaaH24
namespace Go.Proofs.Ytedmambdlkogdaa.sumsUpdate
open Go.RowKit Go.Proofs.YtedmambdlkogdaaW.PrintWords Go.Proofs.YtedmambdlkogdaaW.PrintLast Go.Proofs.YtedmambdlkogdaaW.PrintMore Go.Proofs.Ytedmambdlkogdaa.H Go.Proofs.YtedmambdlkogdaaO
set_option linter.unusedVariables false
def Pure : Prop := ∀ (y0 : Int) (y1 : List Int), (fun x => (Lit.int .u32 x).wf = true) y0 → (fun l => l.length ≤ maxLen ∧ l.length * 1 ≤ 140737488351232 ∧ ∀ x ∈ l, (fun x => (Lit.int .u8 x).wf = true) x) y1 → ∃ k, marquetrylaw02_SumsUpdate.f k y0 y1 = some true
end Go.Proofs.Ytedmambdlkogdaa.sumsUpdate
