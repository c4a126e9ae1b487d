/- A sum that goes on is the document's (SumsUpdate), at every sum and every byte string that the guard lets in; the bytes stay. -/
import Derived.Test.YtedmambdlkogdaaSaySumsUpdate
import Derived.Test.YtedmambdlkogdaaRefAid
namespace Go.Proofs.Ytedmambdlkogdaa.sumsUpdate
open Go.RowKit Go.Proofs.YtedmambdlkogdaaW.PrintWords Go.Proofs.YtedmambdlkogdaaW.PrintLast Go.Proofs.YtedmambdlkogdaaW.PrintMore Go.Proofs.Ytedmambdlkogdaa.H Go.Proofs.YtedmambdlkogdaaO Go.Proofs.Ytedmambdlkogdaa.Aid
set_option linter.unusedVariables false
theorem pure_ : Pure := by
  intro s l hs ⟨_, _, gl⟩
  have B := by_wf gl
  obtain ⟨h0, h1⟩ := wf_u32 hs
  refine ⟨l.length + 10, ?_⟩
  unfold marquetrylaw02_SumsUpdate.f
  by_cases h : (l.length : Int) > 10000
  · rw [if_pos h]
  · rw [if_neg h, bind_of (upd_some h0 h1 B), bind_of (refUpdate_some h0 h1 B (by omega)), if_pos rfl]
end Go.Proofs.Ytedmambdlkogdaa.sumsUpdate
