/- Texts of the claim, packed: PureRangesChecks. -/
import Derived.Test.YtncehlbhjoejhaaZRangesChecks25
import Derived.Test.YtncehlbhjoejhaaZRangesChecks27
section
/- What may be known of a type is what the document says (RangesChecks), at every type and everything known. -/
namespace Go.Proofs.Ytncehlbhjoejhaa.rangesChecks
open Go.RowKit Go.Proofs.YtncehlbhjoejhaaW.PrintWords Go.Proofs.YtncehlbhjoejhaaW.PrintLast Go.Proofs.YtncehlbhjoejhaaW.PrintMore Go.Proofs.Ytncehlbhjoejhaa.H Go.Proofs.YtncehlbhjoejhaaO Go.Proofs.Ytncehlbhjoejhaa.RngOrd
set_option linter.unusedVariables false
set_option linter.unusedSimpArgs false
theorem pure_ : Pure := by
  intro y0 y1 h0 h1
  obtain ⟨t0, t1⟩ := y0
  obtain ⟨n, has, least, most⟩ := y1
  obtain ⟨_, _, hl, hm⟩ := h1
  refine ⟨20005, ?_⟩
  unfold marquetrylaw22_RangesChecks.f
  simp only at hl hm ⊢
  split
  · rfl
  · rename_i hn
    have hs : least.size ≤ 10000 ∧ most.size ≤ 10000 := by unfold wrap64 at hn; omega
    rw [check_f _ _ _ _ _ _ hl hm, refCheck22 _ _ _ _ _ _ hs.1 hs.2]
    simp [marquetrylaw22_num.f, marquetrylaw22_works.f]
end Go.Proofs.Ytncehlbhjoejhaa.rangesChecks
end
