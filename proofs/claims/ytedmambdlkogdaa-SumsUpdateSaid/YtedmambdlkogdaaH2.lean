-- Laid by this session's hprint.py, out of the kit's print.py and texts of the session. Not trusted: Lean checks it.
import Derived.Test.YtedmambdlkogdaaH0
import Derived.Laws.BitsAllLaws
import Derived.Test.YtedmambdlkogdaaCrcPlain
import Derived.WalkLawsBesides
namespace Go.Proofs.Ytedmambdlkogdaa.H
open Go.RowKit Go.Proofs.YtedmambdlkogdaaW.PrintWords Go.Proofs.YtedmambdlkogdaaW.PrintLast Go.Proofs.YtedmambdlkogdaaW.PrintMore
attribute [local go_sem] max2_int min2_int max_two min_two max_three min_three max_four min_four   -- for this text's walks alone
set_option linter.unusedVariables false
set_option linter.unusedSimpArgs false

-- OVPART Derived.WalkLawsBesides Derived.Laws.BitsAllLaws Derived.Test.YtedmambdlkogdaaCrcPlain
/-! ### sums_sum_four: function 24 -/
open Go.Proofs.YtedmambdlkogdaaC in
theorem four_tab (w : World) (T : Nat) (i : Nat) (hi : i < 16) : (w.alloc (.cells #[.int .u32 0, .int .u32 498536548, .int .u32 997073096, .int .u32 651767980, .int .u32 1994146192, .int .u32 1802195444, .int .u32 1303535960, .int .u32 1342533948, .int .u32 3988292384, .int .u32 4027552580, .int .u32 3604390888, .int .u32 3412177804, .int .u32 2607071920, .int .u32 2262029012, .int .u32 2685067896, .int .u32 3183342108] T)).cell? ⟨w.heap.size, i, none⟩ = some (.int .u32 (CrcPlain.tab.getD i 0 : Nat)) := by
  match i, hi with
  | 0, _ | 1, _ | 2, _ | 3, _ | 4, _ | 5, _ | 6, _ | 7, _ | 8, _ | 9, _ | 10, _ | 11, _ | 12, _ | 13, _ | 14, _ | 15, _ => simp [go_sem, CrcPlain.tab]
  | n + 16, h => exact absurd h (by omega)
open Go.Proofs.YtedmambdlkogdaaC in
set_option maxHeartbeats 1000000 in
set_option maxRecDepth 100000 in
theorem sums_sum_four.calls (s : Nat) (hs : s < 4294967296) (w : World) :
    Calls Try.prog 24 #[.int .u32 s] w fun e w' => e = .returned (.int .u32 (CrcPlain.steps 4 s : Nat)) ∧ Below w.heap.size w w' := by
  have hm : bits .and .u32 (s : Int) 15 = ((s % 16 : Nat) : Int) := by
    rw [show (15 : Int) = ((15 : Nat) : Int) from rfl, u32_and_nat s 15 hs (by omega)]
    rw [show (15 : Nat) = 2 ^ 4 - 1 from rfl, Nat.and_two_pow_sub_one_eq_mod]
  have hc := four_tab w 48 (s % 16) (by omega)
  have hx : bits .xor .u32 (((s / 16 : Nat) : Int)) ((CrcPlain.tab.getD (s % 16) 0 : Nat) : Int) = ((CrcPlain.steps 4 s : Nat) : Int) := by
    have ht : CrcPlain.tab.getD (s % 16) 0 < 4294967296 := by
      have : ∀ r, r < 16 → CrcPlain.tab.getD r 0 < 4294967296 := by decide
      exact this _ (by omega)
    rw [u32_xor_nat _ _ (by omega) ht, CrcPlain.four_steps]
  go_enter Try.func24, Try.ntmps24
  go_wp2
  go_ret
  exact ⟨by simpa using hx, below_alloc (Below.refl _ _) _⟩


end Go.Proofs.Ytedmambdlkogdaa.H
