/- The sum of two parts, one behind the other, is the first one's that goes on with the second (SumsJoin), at every two byte strings that the guard lets in. -/
import Derived.Test.YtedmambdlkogdaaSaySumsJoin
import Derived.Test.YtedmambdlkogdaaAid
namespace Go.Proofs.Ytedmambdlkogdaa.sumsJoin
open Go.RowKit Go.Proofs.YtedmambdlkogdaaW.PrintWords Go.Proofs.YtedmambdlkogdaaW.PrintLast Go.Proofs.YtedmambdlkogdaaW.PrintMore Go.Proofs.Ytedmambdlkogdaa.H Go.Proofs.YtedmambdlkogdaaO Go.Proofs.Ytedmambdlkogdaa.Aid
set_option linter.unusedVariables false
theorem pure_ : Pure := by
  intro a b ⟨_, ha, ga⟩ ⟨_, hb, gb⟩
  have Ba := by_wf ga
  have Bb := by_wf gb
  refine ⟨1, ?_⟩
  unfold marquetrylaw02_SumsJoin.f
  by_cases h1 : (a.length : Int) > 10000
  · rw [if_pos h1]
    simp only [marquetrylaw02_SumsJoin.j0]
    rw [if_pos trivial, works_some]
    rfl
  · rw [if_neg h1]
    by_cases h2 : (b.length : Int) > 10000
    · simp only [marquetrylaw02_SumsJoin.j0]
      rw [if_pos (by simpa using h2), works_some]
      rfl
    · simp only [marquetrylaw02_SumsJoin.j0]
      rw [if_neg (by simpa using h2)]
      have e1 := crc_some Ba
      have e2 := upd_some (updI_range 0 a).1 (updI_range 0 a).2 Bb
      have e3 := crc_some (by_append Ba Bb)
      have e4 := upd_some (Int.le_refl 0) (by omega) Ba
      rw [updI_append 0 Ba] at e2
      generalize updI 0 a = ca at *
      generalize updI 0 (a ++ b) = cb at *
      rw [Option.bind_some, if_pos (by simp; omega), Option.bind_some, if_pos (by simp; omega), bind_of e1, bind_of e2, List.nil_append, bind_of e3, if_pos rfl, bind_of e4, bind_of e1, if_pos rfl, bind_of works_some]
end Go.Proofs.Ytedmambdlkogdaa.sumsJoin
