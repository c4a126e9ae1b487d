/- Texts of the claim, packed: H26. -/
import Derived.Laws.FloatArith
import Derived.Test.YtncehlbhjoejhaaZRangesParts4
section
-- Laid by this session's hprint.py, out of the kit's print.py and texts of the session. Not trusted: Lean checks it.
namespace Go.Proofs.Ytncehlbhjoejhaa.H
open Go.RowKit Go.Proofs.YtncehlbhjoejhaaW.PrintWords Go.Proofs.YtncehlbhjoejhaaW.PrintLast Go.Proofs.YtncehlbhjoejhaaW.PrintMore
attribute [local go_sem] max2_int min2_int max_two min_two max_three min_three max_four min_four   -- for this text's walks alone
set_option linter.unusedVariables false
set_option linter.unusedSimpArgs false

-- OVPART Derived.Laws.FloatArith
/-! ### datum_order_float64: function 55 -/
-- CALLS marquetry/datum.Nan
def ordInt : Ordering → Int
  | .lt => -1
  | .eq => 0
  | .gt => 1
set_option maxHeartbeats 2000000 in
set_option maxRecDepth 100000 in
theorem fcmp_calls (x y : Nat) (o : Ordering) (w : World) (ho : FloatKind.f64.format.order x y = some o) (hx : FloatKind.f64.format.order x x = some Ordering.eq) (hy : FloatKind.f64.format.order y y = some Ordering.eq) :
    Calls Try.prog 55 #[.float .f64 x, .float .f64 y] w fun e w' => e = .returned (.tuple #[.int .i64 (ordInt o), .bool true]) ∧ Below w.heap.size w w' := by
  have bx : (FloatKind.f64.format.order x x != some Ordering.eq) = false := by rw [hx]; rfl
  have bY : (FloatKind.f64.format.order y y != some Ordering.eq) = false := by rw [hy]; rfl
  cases o
  · have b1 : (FloatKind.f64.format.order x y == some Ordering.lt) = true := by rw [ho]; rfl
    clear hx hy
    go_enter Try.func55, Try.ntmps55
    go_wp2
    go_ret2
    exact ⟨rfl, Below.refl _ _⟩
  · have b1 : (FloatKind.f64.format.order x y == some Ordering.lt) = false := by rw [ho]; rfl
    have b2 : (FloatKind.f64.format.order x y == some Ordering.gt) = false := by rw [ho]; rfl
    clear hx hy
    go_enter Try.func55, Try.ntmps55
    go_wp2
    go_ret2
    exact ⟨rfl, Below.refl _ _⟩
  · have b1 : (FloatKind.f64.format.order x y == some Ordering.lt) = false := by rw [ho]; rfl
    have b2 : (FloatKind.f64.format.order x y == some Ordering.gt) = true := by rw [ho]; rfl
    clear hx hy
    go_enter Try.func55, Try.ntmps55
    go_wp2
    go_ret2
    exact ⟨rfl, Below.refl _ _⟩


end Go.Proofs.Ytncehlbhjoejhaa.H
end
