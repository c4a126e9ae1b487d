/- Texts of the claim, packed: PureRangesBytes. -/
import Derived.Test.YtncehlbhjoejhaaZRangesBytes21
import Derived.Test.YtncehlbhjoejhaaZRangesBytes23
section
/- The bytes of a datum and the datum of bytes are the document's (RangesBytes), at every datum, type and text. -/
namespace Go.Proofs.Ytncehlbhjoejhaa.rangesBytes
open Go.RowKit Go.Proofs.YtncehlbhjoejhaaW.PrintWords Go.Proofs.YtncehlbhjoejhaaW.PrintLast Go.Proofs.YtncehlbhjoejhaaW.PrintMore Go.Proofs.Ytncehlbhjoejhaa.H Go.Proofs.YtncehlbhjoejhaaO Go.Proofs.Ytncehlbhjoejhaa.RngAid
set_option linter.unusedVariables false
set_option linter.unusedSimpArgs false
theorem read_some (t0 t1 : Int) (s : ByteArray) (hs : s.size ≤ 10000) : ∃ r, ranges_Read.f t0 t1 s = some r := by
  unfold ranges_Read.f
  rw [if_pos (show s.size ≤ 140737488351232 by omega)]
  repeat' split
  all_goals exact ⟨_, rfl⟩
theorem pure_ : Pure := by
  intro y0 y1 y2 h0 _ h2
  obtain ⟨k, i, t⟩ := y0
  obtain ⟨t0, t1⟩ := y1
  obtain ⟨_, hi, ht⟩ := h0
  have hi2 : -9223372036854775808 ≤ i ∧ i ≤ 9223372036854775807 := by simpa [Lit.wf, IntKind.min, IntKind.max, IntKind.signed, IntKind.bits] using hi
  refine ⟨16, ?_⟩
  unfold marquetrylaw22_RangesBytes.f
  simp only at ht h2 ⊢
  split
  · rfl
  · rename_i hn
    have hs : y2.size ≤ 10000 := by unfold wrap64 at hn; omega
    obtain ⟨⟨r1, r2, r3, r4⟩, hr⟩ := read_some t0 t1 y2 hs
    have hl := up (f := fun n => ranges_Lay.f n k i t) (fun n => ranges_Lay.mono _ _ _ n) (lay_v k i t) 6
    have hl2 := up (f := fun n => marquetryref22_Lay.f n k i t) (fun n => marquetryref22_Lay.mono _ _ _ n) (ref_lay k i t hi2) 3

    rw [read_same t0 t1 y2 hs, hr]
    have hl3 : ranges_Lay.f 16 k i t = some (layV k i t) := hl
    have hl4 : marquetryref22_Lay.f 16 k i t = some (layV k i t) := hl2
    rw [hl3, hl4]
    simp [marquetrylaw22_num.f, marquetrylaw22_works.f]
end Go.Proofs.Ytncehlbhjoejhaa.rangesBytes
end
