/- Texts of the claim, packed: H22. -/
import Derived.Lib.Hide
import Derived.Test.YtjdjlccdidfgoaaDoorZSchemaFlat6
section
-- Laid by this session's hprint.py, out of the kit's print.py and texts of the session. Not trusted: Lean checks it.
namespace Go.Proofs.YtjdjlccdidfgoaaDoor.H
open Go.RowKit Go.Proofs.YtjdjlccdidfgoaaDoorW.PrintWords Go.Proofs.YtjdjlccdidfgoaaDoorW.PrintLast Go.Proofs.YtjdjlccdidfgoaaDoorW.PrintMore
attribute [local go_sem] max2_int min2_int max_two min_two max_three min_three max_four min_four   -- for this text's walks alone
set_option linter.unusedVariables false
set_option linter.unusedSimpArgs false

-- OVPART Derived.Lib.Hide
/-! ### schema_same: function 32 -/
def sameHd (x y : S62) : Bool := x.f0.toList == y.f0.toList && (x.f1 == y.f1 && (x.f2 == y.f2 && (x.f3 == y.f3 && (x.f4 == y.f4))))
def sameN : List S62 → List S62 → Bool
  | [], [] => true
  | ⟨a, b, c, d, e, k⟩ :: xs, ⟨a', b', c', d', e', k'⟩ :: ys => sameHd ⟨a, b, c, d, e, []⟩ ⟨a', b', c', d', e', []⟩ && sameN k k' && sameN xs ys
  | _, _ => false
theorem sameN_eq : ∀ l m : List S62, sameN l m = eqL (fun x y => sameHd x y && sameN x.f5 y.f5) l m
  | [], [] => by rw [sameN]; rfl
  | [], ⟨_, _, _, _, _, _⟩ :: _ => by rw [sameN]; rfl; all_goals simp
  | ⟨_, _, _, _, _, _⟩ :: _, [] => by rw [sameN]; rfl; all_goals simp
  | ⟨_, _, _, _, _, _⟩ :: xs, ⟨_, _, _, _, _, _⟩ :: ys => by rw [sameN, sameN_eq xs ys]; rfl
theorem szn_mem {x : S62} {l : List S62} (h : x ∈ l) : SizeOf.sizeOf x < SizeOf.sizeOf l := List.sizeOf_lt_of_mem h
theorem szn_node (x : S62) : SizeOf.sizeOf x.f5 < SizeOf.sizeOf x := by
  cases x
  simp
  omega
end Go.Proofs.YtjdjlccdidfgoaaDoor.H
end
