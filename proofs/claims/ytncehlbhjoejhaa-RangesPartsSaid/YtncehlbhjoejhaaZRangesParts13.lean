/- Texts of the claim, packed: H29. -/
import Derived.WalkLawsBesides
import Derived.Test.YtncehlbhjoejhaaZRangesParts4
section
-- Laid by this session's hprint.py, out of the kit's print.py and texts of the session. Not trusted: Lean checks it.
namespace Go.Proofs.Ytncehlbhjoejhaa.H
open Go.RowKit Go.Proofs.YtncehlbhjoejhaaW.PrintWords Go.Proofs.YtncehlbhjoejhaaW.PrintLast Go.Proofs.YtncehlbhjoejhaaW.PrintMore
attribute [local go_sem] max2_int min2_int max_two min_two max_three min_three max_four min_four   -- for this text's walks alone
set_option linter.unusedVariables false
set_option linter.unusedSimpArgs false

-- OVPART Derived.WalkLawsBesides
/-! ### datum_order_string: function 56 -/
def strI (x y : List UInt8) : Int := if Op.bytesLess x y = true then -1 else if (x == y) = true then 0 else 1
def datum_order_string.f (a0 a1 : ByteArray) : Option (Int × Bool) := some (strI a0.toList a1.toList, true)
set_option maxHeartbeats 2000000 in
set_option maxRecDepth 100000 in
theorem datum_order_string.calls (a0 : ByteArray) (a1 : ByteArray) (r1 : Int) (r2 : Bool) (w : World) (h : datum_order_string.f a0 a1 = some (r1, r2)) :
    Calls Try.prog 56 #[.string a0, .string a1] w fun e w' => e = .returned (.tuple #[.int .i64 r1, .bool r2]) ∧ Below w.heap.size w w' := by
  unfold datum_order_string.f at h
  obtain ⟨rfl, rfl⟩ : r1 = strI a0.toList a1.toList ∧ r2 = true := by simpa [eq_comm] using h
  clear h
  cases b1 : Op.bytesLess a0.toList a1.toList with
  | true =>
    have e : strI a0.toList a1.toList = -1 := by unfold strI; rw [if_pos b1]
    rw [e]
    clear e
    go_enter Try.func56, Try.ntmps56
    go_wp2
    go_ret2
    exact ⟨rfl, Below.refl _ _⟩
  | false =>
    cases b2 : (a0.toList == a1.toList) with
    | true =>
      have e : strI a0.toList a1.toList = 0 := by unfold strI; rw [if_neg (by rw [b1]; simp), if_pos b2]
      rw [e]
      clear e
      go_enter Try.func56, Try.ntmps56
      go_wp2
      go_ret2
      exact ⟨rfl, Below.refl _ _⟩
    | false =>
      have e : strI a0.toList a1.toList = 1 := by unfold strI; rw [if_neg (by rw [b1]; simp), if_neg (by rw [b2]; simp)]
      rw [e]
      clear e
      go_enter Try.func56, Try.ntmps56
      go_wp2
      go_ret2
      exact ⟨rfl, Below.refl _ _⟩


end Go.Proofs.Ytncehlbhjoejhaa.H
end
