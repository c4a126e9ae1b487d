/- It is told which bytes are a sum's (SumsOf), at every byte string. -/
import Derived.Test.YtedmambdlkogdaaSaySumsOf
import Derived.Test.YtedmambdlkogdaaOfAid
namespace Go.Proofs.Ytedmambdlkogdaa.sumsOf
open Go.RowKit Go.Proofs.YtedmambdlkogdaaW.PrintWords Go.Proofs.YtedmambdlkogdaaW.PrintLast Go.Proofs.YtedmambdlkogdaaW.PrintMore Go.Proofs.Ytedmambdlkogdaa.H Go.Proofs.YtedmambdlkogdaaO Go.Proofs.Ytedmambdlkogdaa.Aid
set_option linter.unusedVariables false
theorem pure_ : Pure := by
  intro l ⟨_, _, gl⟩
  have B := by_wf gl
  refine ⟨5, ?_⟩
  unfold marquetrylaw02_SumsOf.f
  by_cases h1 : (l.length : Int) < 4
  · have e : sums_Of.f 5 l = some (0, 6) := by unfold sums_Of.f; rw [if_pos h1]
    rw [bind_of e, if_pos h1, if_pos rfl, bind_of (num_some _), if_pos rfl, bind_of works_some]
  · by_cases h2 : (l.length : Int) > 4
    · have e : sums_Of.f 5 l = some (0, 7) := by unfold sums_Of.f; rw [if_neg h1, if_pos h2]
      rw [bind_of e, if_neg h1, if_pos h2, if_pos rfl, bind_of (num_some _), if_pos rfl, bind_of works_some]
    · match l, h1, h2, B with
      | [x, y, z, u], h1, h2, B =>
        obtain ⟨hx0, hx1⟩ := B x (by simp)
        obtain ⟨hy0, hy1⟩ := B y (by simp)
        obtain ⟨hz0, hz1⟩ := B z (by simp)
        obtain ⟨hu0, hu1⟩ := B u (by simp)
        obtain ⟨a, rfl⟩ := Int.eq_ofNat_of_zero_le hx0
        obtain ⟨b, rfl⟩ := Int.eq_ofNat_of_zero_le hy0
        obtain ⟨c, rfl⟩ := Int.eq_ofNat_of_zero_le hz0
        obtain ⟨d, rfl⟩ := Int.eq_ofNat_of_zero_le hu0
        have e1 := of_some (a := a) (b := b) (c := c) (d := d) (by omega) (by omega) (by omega) (by omega)
        have e2 := refBytes_some (a := a) (b := b) (c := c) (d := d) (by omega) (by omega) (by omega) (by omega)
        rw [bind_of e1, if_neg h1, if_neg h2, bind_of e2, if_pos rfl, bind_of (num_some _), if_pos rfl, bind_of works_some]
      | [], h1, _, _ => exact absurd (by simp) h1
      | [_], h1, _, _ => exact absurd (by simp) h1
      | [_, _], h1, _, _ => exact absurd (by simp) h1
      | [_, _, _], h1, _, _ => exact absurd (by simp) h1
      | _ :: _ :: _ :: _ :: _ :: _, _, h2, _ => exact absurd (by simp; omega) h2
end Go.Proofs.Ytedmambdlkogdaa.sumsOf
