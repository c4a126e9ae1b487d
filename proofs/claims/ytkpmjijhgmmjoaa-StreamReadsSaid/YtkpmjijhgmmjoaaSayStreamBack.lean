-- Laid by this session's hprint.py: what is left to prove of a law. Not trusted: Lean checks it.
import Derived.Test.YtkpmjijhgmmjoaaOpen
import Derived.Test.YtkpmjijhgmmjoaaH19
namespace Go.Proofs.Ytkpmjijhgmmjoaa.streamBack
open Go.RowKit Go.Proofs.YtkpmjijhgmmjoaaW.PrintWords Go.Proofs.YtkpmjijhgmmjoaaW.PrintLast Go.Proofs.YtkpmjijhgmmjoaaW.PrintMore Go.Proofs.Ytkpmjijhgmmjoaa.H Go.Proofs.YtkpmjijhgmmjoaaO
set_option linter.unusedVariables false
def Pure : Prop := ∀ (y0 : Int) (y1 : List Int), (fun x => (Lit.int .i64 x).wf = true) y0 → (fun l => l.length ≤ maxLen ∧ l.length * 1 ≤ 140737488351232 ∧ ∀ x ∈ l, (fun x => (Lit.int .u8 x).wf = true) x) y1 → marquetrylaw15_StreamBack.f y0 y1 = some true
end Go.Proofs.Ytkpmjijhgmmjoaa.streamBack
