import Derived.Test.YtidhenogfblolaaH42
import Derived.Test.YtidhenogfblolaaH43
import Derived.Test.YtidhenogfblolaaDatAid
namespace Go.Proofs.Ytidhenogfblolaa.CmpAid
open Go.RowKit Go.Proofs.YtidhenogfblolaaW.PrintWords Go.Proofs.YtidhenogfblolaaW.PrintLast Go.Proofs.YtidhenogfblolaaW.PrintMore Go.Proofs.Ytidhenogfblolaa.H Go.Proofs.Ytidhenogfblolaa.DatAid
set_option linter.unusedVariables false
/-- Strings byte by byte. -/
def sc : List UInt8 → List UInt8 → Int
  | [], [] => 0
  | [], _ :: _ => -1
  | _ :: _, [] => 1
  | x :: xs, y :: ys => if x < y then -1 else if y < x then 1 else sc xs ys
theorem strI_sc : ∀ x y : List UInt8, strI x y = sc x y
  | [], [] => rfl
  | [], _ :: _ => rfl
  | _ :: _, [] => rfl
  | x :: xs, y :: ys => by
    have ih := strI_sc xs ys
    unfold strI at ih ⊢
    simp only [Op.bytesLess, sc]
    by_cases h : x < y
    · simp [h]
    · by_cases h2 : y < x
      · have hne : x ≠ y := fun e => by subst e; exact h h2
        simp [h, h2, hne]
      · have he : x = y := by
          have h3 : ¬ x.toNat < y.toNat := h
          have h4 : ¬ y.toNat < x.toNat := h2
          exact UInt8.toNat_inj.mp (by omega)
        subst he
        simp [h, ← ih]
theorem sc_refl : ∀ x : List UInt8, sc x x = 0
  | [] => rfl
  | x :: xs => by
    have h : ¬ x < x := fun h => Nat.lt_irrefl _ (show x.toNat < x.toNat from h)
    simp only [sc, if_neg h]
    exact sc_refl xs
theorem sc_swap : ∀ x y : List UInt8, sc y x = - sc x y
  | [], [] => rfl
  | [], _ :: _ => rfl
  | _ :: _, [] => rfl
  | x :: xs, y :: ys => by
    have ih := sc_swap xs ys
    simp only [sc]
    by_cases h : x < y
    · have h2 : ¬ y < x := fun h2 => Nat.lt_irrefl _ (Nat.lt_trans (show x.toNat < y.toNat from h) h2)
      simp [h, h2]
    · by_cases h2 : y < x
      · simp [h, h2]
      · simp [h, h2, ih]
theorem sc_trans : ∀ x y z : List UInt8, (sc x y ≤ 0 → sc y z ≤ 0 → sc x z ≤ 0) ∧ (sc x y < 0 → sc y z ≤ 0 → sc x z < 0)
  | [], [], [] => by simp [sc]
  | [], [], _ :: _ => by simp [sc]
  | [], _ :: _, [] => by simp [sc]
  | [], _ :: _, _ :: _ => by simp [sc]
  | _ :: _, [], _ => by simp [sc]
  | _ :: _, _ :: _, [] => by simp [sc]
  | x :: xs, y :: ys, z :: zs => by
    have ih := sc_trans xs ys zs
    simp only [sc]
    have t : ∀ a b : UInt8, (a < b) ↔ a.toNat < b.toNat := fun a b => Iff.rfl
    by_cases h1 : x < y
    · have n1 : ¬ y < x := by rw [t] at *; omega
      by_cases h2 : y < z
      · have h3 : x < z := by rw [t] at *; omega
        simp [h1, h2, h3]
      · by_cases h4 : z < y
        · simp [h1, h2, h4]
        · have h3 : x < z := by rw [t] at *; omega
          simp [h1, h2, h4, h3]
    · by_cases h2 : y < x
      · simp [h1, h2]
      · have he : x = y := UInt8.toNat_inj.mp (by rw [t] at *; omega)
        subst he
        by_cases h3 : x < z
        · simp [h1, h3]
        · by_cases h4 : z < x
          · simp [h1, h3, h4]
          · simp [h1, h3, h4]
            exact ih
end Go.Proofs.Ytidhenogfblolaa.CmpAid
