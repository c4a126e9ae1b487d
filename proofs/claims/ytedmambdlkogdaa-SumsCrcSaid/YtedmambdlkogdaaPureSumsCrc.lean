/- The sum of bytes is the document's (SumsCrc), at every byte string that the guard lets in; the bytes stay. -/
import Derived.Test.YtedmambdlkogdaaSaySumsCrc
import Derived.Test.YtedmambdlkogdaaRefAid
namespace Go.Proofs.Ytedmambdlkogdaa.sumsCrc
open Go.RowKit Go.Proofs.YtedmambdlkogdaaW.PrintWords Go.Proofs.YtedmambdlkogdaaW.PrintLast Go.Proofs.YtedmambdlkogdaaW.PrintMore Go.Proofs.Ytedmambdlkogdaa.H Go.Proofs.YtedmambdlkogdaaO Go.Proofs.Ytedmambdlkogdaa.Aid
set_option linter.unusedVariables false
theorem pure_ : Pure := by
  intro l ⟨_, _, gl⟩
  have B := by_wf gl
  refine ⟨l.length + 10, ?_⟩
  unfold marquetrylaw02_SumsCrc.f
  by_cases h : (l.length : Int) > 10000
  · rw [if_pos h]
  · have e2 : marquetryref02_Crc.f (l.length + 10) l = some (updI 0 l) := by
      unfold marquetryref02_Crc.f
      rw [bind_of (refUpdate_some (Int.le_refl 0) (by omega) B (by omega))]
    rw [if_neg h, bind_of (crc_some B), bind_of e2, if_pos rfl]
end Go.Proofs.Ytedmambdlkogdaa.sumsCrc
