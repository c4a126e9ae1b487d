/- datum.Check says 'yes' just where the document's Check does, and else ErrArg (DatumCheck), at every type. -/
import Derived.Test.YtidhenogfblolaaSayDatumCheck
namespace Go.Proofs.Ytidhenogfblolaa.datumCheck
open Go.RowKit Go.Proofs.YtidhenogfblolaaW.PrintWords Go.Proofs.YtidhenogfblolaaW.PrintLast Go.Proofs.YtidhenogfblolaaW.PrintMore Go.Proofs.Ytidhenogfblolaa.H Go.Proofs.YtidhenogfblolaaO
set_option linter.unusedVariables false
theorem bind_of {α β : Type} {o : Option α} {x : α} (h : o = some x) (g : α → Option β) : o.bind g = g x := by rw [h]; rfl
theorem check_v (t s : Int) : datum_Check.v t s = if t = 0 ∨ t = 1 ∨ t = 2 ∨ t = 4 ∨ t = 5 ∨ t = 6 then (if s = 0 then 0 else 2) else if t = 7 then (if 1 ≤ s ∧ s ≤ 1048576 then 0 else 2) else 2 := by
  unfold datum_Check.v kOf
  by_cases h0 : t = 0
  · subst h0; simp
  by_cases h1 : t = 1
  · subst h1; simp
  by_cases h2 : t = 2
  · subst h2; simp
  by_cases h4 : t = 4
  · subst h4; simp
  by_cases h5 : t = 5
  · subst h5; simp
  by_cases h6 : t = 6
  · subst h6; simp
  by_cases h7 : t = 7
  · subst h7; simp
  simp [h0, h1, h2, h4, h5, h6, h7]
theorem ref_check (t s : Int) : marquetryref09_Check.f 1 t s = some (decide (datum_Check.v t s = 0)) := by
  rw [check_v]
  unfold marquetryref09_Check.f
  simp only [marquetryref09_Check.j0]
  by_cases h0 : t = 0
  · subst h0; by_cases hs : s = 0 <;> simp [hs]
  by_cases h1 : t = 1
  · subst h1; by_cases hs : s = 0 <;> simp [hs]
  by_cases h2 : t = 2
  · subst h2; by_cases hs : s = 0 <;> simp [hs]
  by_cases h4 : t = 4
  · subst h4; by_cases hs : s = 0 <;> simp [hs]
  by_cases h5 : t = 5
  · subst h5; by_cases hs : s = 0 <;> simp [hs]
  by_cases h6 : t = 6
  · subst h6; by_cases hs : s = 0 <;> simp [hs]
  by_cases h7 : t = 7
  · subst h7
    by_cases ha : 1 ≤ s <;> by_cases hb : s ≤ 1048576 <;> simp [ha, hb]
  simp [h0, h1, h2, h4, h5, h6, h7]
theorem pure_ : Pure := by
  intro y0 _
  obtain ⟨t, s⟩ := y0
  refine ⟨1, ?_⟩
  unfold marquetrylaw09_DatumCheck.f
  have e1 : datum_Check.f t s = some (datum_Check.v t s) := rfl
  have hv : datum_Check.v t s = 0 ∨ datum_Check.v t s = 2 := by
    rw [check_v]
    repeat' split
    all_goals simp
  rw [bind_of e1, bind_of (ref_check t s)]
  rcases hv with hv | hv
  · rw [hv]; rfl
  · rw [hv]; rfl
end Go.Proofs.Ytidhenogfblolaa.datumCheck
