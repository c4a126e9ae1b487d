-- Laid by this session's hprint.py: what is left to prove of a law. Not trusted: Lean checks it.
import Derived.Test.YtidhenogfblolaaOpen
import Derived.Test.YtidhenogfblolaaH32
namespace Go.Proofs.Ytidhenogfblolaa.datumMake
open Go.RowKit Go.Proofs.YtidhenogfblolaaW.PrintWords Go.Proofs.YtidhenogfblolaaW.PrintLast Go.Proofs.YtidhenogfblolaaW.PrintMore Go.Proofs.Ytidhenogfblolaa.H Go.Proofs.YtidhenogfblolaaO
set_option linter.unusedVariables false
def Pure : Prop := ∀ (y0 : Int) (y1 : Int) (y2 : ByteArray), (fun x => (Lit.int .i64 x).wf = true) y0 → (fun x => (Lit.int .u64 x).wf = true) y1 → (fun s => s.size ≤ 140737488351232) y2 → marquetrylaw09_DatumMake.f y0 y1 y2 = some true
end Go.Proofs.Ytidhenogfblolaa.datumMake
