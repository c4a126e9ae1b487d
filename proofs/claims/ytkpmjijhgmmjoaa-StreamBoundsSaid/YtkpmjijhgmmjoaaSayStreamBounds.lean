-- Laid by this session's hprint.py: what is left to prove of a law. Not trusted: Lean checks it.
import Derived.Test.YtkpmjijhgmmjoaaOpen
import Derived.Test.YtkpmjijhgmmjoaaH18
namespace Go.Proofs.Ytkpmjijhgmmjoaa.streamBounds
open Go.RowKit Go.Proofs.YtkpmjijhgmmjoaaW.PrintWords Go.Proofs.YtkpmjijhgmmjoaaW.PrintLast Go.Proofs.YtkpmjijhgmmjoaaW.PrintMore Go.Proofs.Ytkpmjijhgmmjoaa.H Go.Proofs.YtkpmjijhgmmjoaaO
set_option linter.unusedVariables false
def Pure : Prop := marquetrylaw15_StreamBounds.f  = some true
end Go.Proofs.Ytkpmjijhgmmjoaa.streamBounds
