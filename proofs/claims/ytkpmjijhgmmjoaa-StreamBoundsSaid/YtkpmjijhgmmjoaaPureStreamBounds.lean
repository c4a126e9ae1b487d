/- The bound of bytes, and one past it (StreamBounds); it has no input. -/
import Derived.Test.YtkpmjijhgmmjoaaSayStreamBounds
namespace Go.Proofs.Ytkpmjijhgmmjoaa.streamBounds
open Go.RowKit Go.Proofs.YtkpmjijhgmmjoaaW.PrintWords Go.Proofs.YtkpmjijhgmmjoaaW.PrintLast Go.Proofs.YtkpmjijhgmmjoaaW.PrintMore Go.Proofs.Ytkpmjijhgmmjoaa.H Go.Proofs.YtkpmjijhgmmjoaaO
theorem pure_ : Pure := rfl
end Go.Proofs.Ytkpmjijhgmmjoaa.streamBounds
