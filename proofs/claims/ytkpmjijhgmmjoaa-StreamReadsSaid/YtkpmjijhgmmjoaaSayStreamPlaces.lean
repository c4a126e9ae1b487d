-- Laid by this session's hprint.py: what is left to prove of a law. Not trusted: Lean checks it.
import Derived.Test.YtkpmjijhgmmjoaaOpen
import Derived.Test.YtkpmjijhgmmjoaaH17
namespace Go.Proofs.Ytkpmjijhgmmjoaa.streamPlaces
open Go.RowKit Go.Proofs.YtkpmjijhgmmjoaaW.PrintWords Go.Proofs.YtkpmjijhgmmjoaaW.PrintLast Go.Proofs.YtkpmjijhgmmjoaaW.PrintMore Go.Proofs.Ytkpmjijhgmmjoaa.H Go.Proofs.YtkpmjijhgmmjoaaO
set_option linter.unusedVariables false
def Pure : Prop := ∀ (y0 : Int) (y1 : Int) (y2 : Int), (fun x => (Lit.int .i64 x).wf = true) y0 → (fun x => (Lit.int .i64 x).wf = true) y1 → (fun x => (Lit.int .i64 x).wf = true) y2 → ∃ k, marquetrylaw15_StreamPlaces.f k y0 y1 y2 = some true
end Go.Proofs.Ytkpmjijhgmmjoaa.streamPlaces
