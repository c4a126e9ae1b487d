/- It is told where a byte stands (StreamPlaces), at every width, count and place. -/
import Derived.Test.YtkpmjijhgmmjoaaSayStreamPlaces
namespace Go.Proofs.Ytkpmjijhgmmjoaa.streamPlaces
open Go.RowKit Go.Proofs.YtkpmjijhgmmjoaaW.PrintWords Go.Proofs.YtkpmjijhgmmjoaaW.PrintLast Go.Proofs.YtkpmjijhgmmjoaaW.PrintMore Go.Proofs.Ytkpmjijhgmmjoaa.H Go.Proofs.YtkpmjijhgmmjoaaO
set_option linter.unusedVariables false
theorem check_bad {a : Int} (h : a < 1 ∨ 64 < a) : stream_check.f a 0 = some 2 := by
  unfold stream_check.f
  by_cases h1 : a > 64
  · rw [if_pos h1]
  · rw [if_neg h1, if_pos (by omega)]
theorem check_good {a : Int} (h0 : 1 ≤ a) (h1 : a ≤ 64) : stream_check.f a 0 = some 0 := by
  unfold stream_check.f
  rw [if_neg (by omega), if_neg (by omega), if_neg (by omega), if_neg (by omega), if_pos (by simp)]
theorem pure_ : Pure := by
  intro a b c ga gb gc
  refine ⟨1, ?_⟩
  unfold marquetrylaw15_StreamPlaces.f stream_Place.f
  by_cases h1 : a < 1
  · rw [check_bad (.inl h1)]
    simp [h1, marquetrylaw15_StreamPlaces.j0, marquetrylaw15_works.f]
  · by_cases h2 : a > 64
    · rw [check_bad (.inr h2)]
      simp [h1, h2, marquetrylaw15_StreamPlaces.j0, marquetrylaw15_works.f]
    · have ha : ¬ a = 0 := by omega
      rw [check_good (by omega) (by omega)]
      simp only [Option.bind_some, if_true, if_neg h1, if_neg h2, if_neg ha]
      by_cases h3 : b < 0
      · simp [h3, marquetrylaw15_StreamPlaces.j0, marquetrylaw15_works.f]
      · simp only [if_neg h3]
        by_cases h4 : b > wrap64 (Int.tdiv 1048576 a)
        · simp [h4, marquetrylaw15_StreamPlaces.j0, marquetrylaw15_works.f]
        · simp only [if_neg h4]
          by_cases h5 : c < 0
          · simp [h5, marquetrylaw15_StreamPlaces.j0, marquetrylaw15_works.f]
          · simp only [if_neg h5]
            by_cases h6 : c ≥ wrap64 (a * b)
            · simp [h6, marquetrylaw15_StreamPlaces.j0, marquetrylaw15_works.f]
            · simp [h6, ha, marquetrylaw15_StreamPlaces.j0, marquetrylaw15_works.f]
end Go.Proofs.Ytkpmjijhgmmjoaa.streamPlaces
