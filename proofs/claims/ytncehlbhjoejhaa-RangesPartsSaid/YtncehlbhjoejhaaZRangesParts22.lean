/- Texts of the claim, packed: H49, H54, CmpAid. -/
import Derived.Test.YtncehlbhjoejhaaZRangesParts4
import Derived.Test.YtncehlbhjoejhaaZRangesParts6
import Derived.Test.YtncehlbhjoejhaaZRangesParts11
import Derived.Test.YtncehlbhjoejhaaZRangesParts14
import Derived.Test.YtncehlbhjoejhaaZRangesParts15
import Derived.Test.YtncehlbhjoejhaaZRangesParts20
import Derived.Test.YtncehlbhjoejhaaZRangesParts21
section
-- Laid by this session's hprint.py, out of the kit's print.py and texts of the session. Not trusted: Lean checks it.
namespace Go.Proofs.Ytncehlbhjoejhaa.H
open Go.RowKit Go.Proofs.YtncehlbhjoejhaaW.PrintWords Go.Proofs.YtncehlbhjoejhaaW.PrintLast Go.Proofs.YtncehlbhjoejhaaW.PrintMore
attribute [local go_sem] max2_int min2_int max_two min_two max_three min_three max_four min_four   -- for this text's walks alone
set_option linter.unusedVariables false
set_option linter.unusedSimpArgs false

-- OVPART Derived.Test.YtncehlbhjoejhaaDatAid
/-! ### marquetryref09_Compare: function 43 -/
-- CALLS marquetry/marquetryref09.Fine marquetry/marquetryref09.Real marquetry/marquetryref09.Texts marquetry/datum.Compare
def inR (i : Int) : Prop := -9223372036854775808 ≤ i ∧ i ≤ 9223372036854775807
instance (i : Int) : Decidable (inR i) := by unfold inR; infer_instance
open Go.Proofs.YtncehlbhjoejhaaF
end Go.Proofs.Ytncehlbhjoejhaa.H
end
section
-- Laid by this session's hprint.py, out of the kit's print.py and texts of the session. Not trusted: Lean checks it.
namespace Go.Proofs.Ytncehlbhjoejhaa.H
open Go.RowKit Go.Proofs.YtncehlbhjoejhaaW.PrintWords Go.Proofs.YtncehlbhjoejhaaW.PrintLast Go.Proofs.YtncehlbhjoejhaaW.PrintMore
attribute [local go_sem] max2_int min2_int max_two min_two max_three min_three max_four min_four   -- for this text's walks alone
set_option linter.unusedVariables false
set_option linter.unusedSimpArgs false

/-! ### marquetryref22_placed: function 42 -/
end Go.Proofs.Ytncehlbhjoejhaa.H
end
section
namespace Go.Proofs.Ytncehlbhjoejhaa.CmpAid
open Go.RowKit Go.Proofs.YtncehlbhjoejhaaW.PrintWords Go.Proofs.YtncehlbhjoejhaaW.PrintLast Go.Proofs.YtncehlbhjoejhaaW.PrintMore Go.Proofs.Ytncehlbhjoejhaa.H Go.Proofs.Ytncehlbhjoejhaa.DatAid
set_option linter.unusedVariables false
/-- Strings byte by byte. -/
def sc : List UInt8 → List UInt8 → Int
  | [], [] => 0
  | [], _ :: _ => -1
  | _ :: _, [] => 1
  | x :: xs, y :: ys => if x < y then -1 else if y < x then 1 else sc xs ys
theorem strI_sc : ∀ x y : List UInt8, strI x y = sc x y
  | [], [] => rfl
  | [], _ :: _ => rfl
  | _ :: _, [] => rfl
  | x :: xs, y :: ys => by
    have ih := strI_sc xs ys
    unfold strI at ih ⊢
    simp only [Op.bytesLess, sc]
    by_cases h : x < y
    · simp [h]
    · by_cases h2 : y < x
      · have hne : x ≠ y := fun e => by subst e; exact h h2
        simp [h, h2, hne]
      · have he : x = y := by
          have h3 : ¬ x.toNat < y.toNat := h
          have h4 : ¬ y.toNat < x.toNat := h2
          exact UInt8.toNat_inj.mp (by omega)
        subst he
        simp [h, ← ih]
theorem sc_swap : ∀ x y : List UInt8, sc y x = - sc x y
  | [], [] => rfl
  | [], _ :: _ => rfl
  | _ :: _, [] => rfl
  | x :: xs, y :: ys => by
    have ih := sc_swap xs ys
    simp only [sc]
    by_cases h : x < y
    · have h2 : ¬ y < x := fun h2 => Nat.lt_irrefl _ (Nat.lt_trans (show x.toNat < y.toNat from h) h2)
      simp [h, h2]
    · by_cases h2 : y < x
      · simp [h, h2]
      · simp [h, h2, ih]
theorem sc_trans : ∀ x y z : List UInt8, (sc x y ≤ 0 → sc y z ≤ 0 → sc x z ≤ 0) ∧ (sc x y < 0 → sc y z ≤ 0 → sc x z < 0)
  | [], [], [] => by simp [sc]
  | [], [], _ :: _ => by simp [sc]
  | [], _ :: _, [] => by simp [sc]
  | [], _ :: _, _ :: _ => by simp [sc]
  | _ :: _, [], _ => by simp [sc]
  | _ :: _, _ :: _, [] => by simp [sc]
  | x :: xs, y :: ys, z :: zs => by
    have ih := sc_trans xs ys zs
    simp only [sc]
    have t : ∀ a b : UInt8, (a < b) ↔ a.toNat < b.toNat := fun a b => Iff.rfl
    by_cases h1 : x < y
    · have n1 : ¬ y < x := by rw [t] at *; omega
      by_cases h2 : y < z
      · have h3 : x < z := by rw [t] at *; omega
        simp [h1, h2, h3]
      · by_cases h4 : z < y
        · simp [h1, h2, h4]
        · have h3 : x < z := by rw [t] at *; omega
          simp [h1, h2, h4, h3]
    · by_cases h2 : y < x
      · simp [h1, h2]
      · have he : x = y := UInt8.toNat_inj.mp (by rw [t] at *; omega)
        subst he
        by_cases h3 : x < z
        · simp [h1, h3]
        · by_cases h4 : z < x
          · simp [h1, h3, h4]
          · simp [h1, h3, h4]
            exact ih
end Go.Proofs.Ytncehlbhjoejhaa.CmpAid
end
