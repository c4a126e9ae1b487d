/- Bytes with their own sum behind have always the same sum (SumsRest), at every byte string that the guard lets in. -/
import Derived.Test.YtedmambdlkogdaaSaySumsRest
import Derived.Test.YtedmambdlkogdaaAid
namespace Go.Proofs.Ytedmambdlkogdaa.sumsRest
open Go.RowKit Go.Proofs.YtedmambdlkogdaaW.PrintWords Go.Proofs.YtedmambdlkogdaaW.PrintLast Go.Proofs.YtedmambdlkogdaaW.PrintMore Go.Proofs.Ytedmambdlkogdaa.H Go.Proofs.YtedmambdlkogdaaO Go.Proofs.Ytedmambdlkogdaa.Aid Go.Proofs.YtedmambdlkogdaaC
set_option linter.unusedVariables false
def four (c : Int) : List Int := [c % 256, c / 256 % 256, c / 256 / 256 % 256, c / 256 / 256 / 256 % 256]
theorem bytes_some (c : Int) : sums_Bytes.f 5 c = some (four c) := by
  unfold sums_Bytes.f four
  rw [sums_Bytes.l0, if_pos (by omega), if_pos (by simp), show wrap64 (0 + 1) = 1 by unfold wrap64; omega]
  rw [sums_Bytes.l0, if_pos (by omega), if_pos (by simp), show wrap64 (1 + 1) = 2 by unfold wrap64; omega]
  rw [sums_Bytes.l0, if_pos (by omega), if_pos (by simp), show wrap64 (2 + 1) = 3 by unfold wrap64; omega]
  rw [sums_Bytes.l0, if_pos (by omega), if_pos (by simp), show wrap64 (3 + 1) = 4 by unfold wrap64; omega]
  rw [sums_Bytes.l0, if_neg (by omega)]
  rfl
theorem four_by (c : Int) : By (four c) := by
  intro x hx
  simp [four] at hx
  omega
theorem rest (c : Int) (h0 : 0 ≤ c) (h1 : c < 4294967296) : updI c (four c) = 558161692 := by
  have e : CrcPlain.upd (4294967295 - c.toNat) ((four c).map Int.toNat) = 3736805603 := by
    have hx : (4294967295 - c.toNat) ^^^ c.toNat = 4294967295 := by
      rw [← xorAll c.toNat (by omega), Nat.xor_comm, ← Nat.xor_assoc, Nat.xor_self, Nat.zero_xor]
    have hn : CrcPlain.num [(c % 256).toNat, (c / 256 % 256).toNat, (c / 256 / 256 % 256).toNat, (c / 256 / 256 / 256 % 256).toNat] = c.toNat := by
      simp only [CrcPlain.num]
      omega
    have h := CrcPlain.upd_own (4294967295 - c.toNat) (c % 256).toNat (c / 256 % 256).toNat (c / 256 / 256 % 256).toNat (c / 256 / 256 / 256 % 256).toNat (by omega) (by omega) (by omega) (by omega) (by rw [hn, hx])
    have hk : CrcPlain.steps 32 4294967295 = 3736805603 := by decide +kernel
    rw [hk] at h
    exact h
  unfold updI
  rw [e]
  rfl
theorem pure_ : Pure := by
  intro b ⟨_, hb, gb⟩
  have Bb := by_wf gb
  refine ⟨5, ?_⟩
  unfold marquetrylaw02_SumsRest.f
  by_cases h1 : (b.length : Int) > 10000
  · rw [if_pos h1, bind_of works_some]
  · have e1 := crc_some Bb
    have e2 := bytes_some (updI 0 b)
    have e3 := crc_some (by_append Bb (four_by (updI 0 b)))
    have hr := updI_range 0 b
    rw [← updI_append 0 Bb, rest _ hr.1 hr.2] at e3
    generalize updI 0 b = c at *
    rw [if_neg h1, Option.bind_some, if_pos (by simp; omega), Option.bind_some, bind_of e1, bind_of e2, List.nil_append, if_pos (by simp [four]; omega), bind_of e3, if_pos rfl, bind_of works_some]
end Go.Proofs.Ytedmambdlkogdaa.sumsRest
