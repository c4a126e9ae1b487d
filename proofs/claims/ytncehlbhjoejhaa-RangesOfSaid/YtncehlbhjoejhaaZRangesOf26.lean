/- Texts of the claim, packed: RngAid. -/
import Derived.Laws.BitsAllLaws
import Derived.Laws.BitsLemmas
import Derived.Test.YtncehlbhjoejhaaZRangesOf4
import Derived.Test.YtncehlbhjoejhaaZRangesOf7
import Derived.Test.YtncehlbhjoejhaaZRangesOf16
import Derived.Test.YtncehlbhjoejhaaZRangesOf17
import Derived.Test.YtncehlbhjoejhaaZRangesOf18
import Derived.Test.YtncehlbhjoejhaaZRangesOf20
section
namespace Go.Proofs.Ytncehlbhjoejhaa.RngAid
open Go.RowKit Go.Proofs.YtncehlbhjoejhaaW.PrintWords Go.Proofs.YtncehlbhjoejhaaW.PrintLast Go.Proofs.YtncehlbhjoejhaaW.PrintMore Go.Proofs.Ytncehlbhjoejhaa.H Go.Proofs.Ytncehlbhjoejhaa.DatAid
set_option linter.unusedVariables false
set_option linter.unusedSimpArgs false
theorem i64_and255 (n : Int) : bits .and .i64 n 255 = n % 256 := by
  have h255 : (BitVec.ofInt 64 255).toNat = 2 ^ 8 - 1 := by decide
  have key : (BitVec.ofInt 64 n &&& BitVec.ofInt 64 255).toNat = (n % ((2 ^ 64 : Nat) : Int)).toNat % 2 ^ 8 := by
    rw [BitVec.toNat_and, BitVec.toNat_ofInt, h255, Nat.and_two_pow_sub_one_eq_mod]
  show IntKind.i64.wrap ((BitVec.ofInt 64 n &&& BitVec.ofInt 64 255).toNat : Nat) = n % 256
  rw [key, IntKind.wrap_i64]
  omega
theorem and_mod (n : Int) : bits .and .i64 n 255 % 256 = n % 256 := by rw [i64_and255]; omega
/-- The n lowest bytes of i. -/
def leB (n : Nat) (i : Int) : List Int := (List.range n).map (fun (j : Nat) => shr .i64 i (8 * (j : Int)) % 256)
def leR (n : Nat) (i : Int) : List Int := (List.range n).map (fun (j : Nat) => bits .and .i64 (shr .i64 i (8 * (j : Int))) 255 % 256)
theorem leR_eq (n : Nat) (i : Int) : leR n i = leB n i := by
  unfold leR leB
  simp only [and_mod]
theorem lay_1 (k i : Int) (t : ByteArray) : ranges_Lay.l0 10 [] 1 0 k i t = some (strOfNums (leB 1 i)) := by
  simp [ranges_Lay.l0, leB, List.range, List.range.loop, wrap64]
theorem lay_4 (k i : Int) (t : ByteArray) : ranges_Lay.l0 10 [] 4 0 k i t = some (strOfNums (leB 4 i)) := by
  simp [ranges_Lay.l0, leB, List.range, List.range.loop, wrap64]
theorem lay_8 (k i : Int) (t : ByteArray) : ranges_Lay.l0 10 [] 8 0 k i t = some (strOfNums (leB 8 i)) := by
  simp [ranges_Lay.l0, leB, List.range, List.range.loop, wrap64]
theorem ref_1 (k i : Int) (t : ByteArray) : marquetryref22_Lay.j1 12 1 k i t = some (strOfNums (leB 1 i)) := by
  rw [← leR_eq]
  simp [marquetryref22_Lay.j1, marquetryref22_Lay.l0, leR, List.range, List.range.loop, wrap64, List.replicate]
theorem ref_4 (k i : Int) (t : ByteArray) : marquetryref22_Lay.j1 12 4 k i t = some (strOfNums (leB 4 i)) := by
  rw [← leR_eq]
  simp [marquetryref22_Lay.j1, marquetryref22_Lay.l0, leR, List.range, List.range.loop, wrap64, List.replicate]
theorem ref_8 (k i : Int) (t : ByteArray) : marquetryref22_Lay.j1 12 8 k i t = some (strOfNums (leB 8 i)) := by
  rw [← leR_eq]
  simp [marquetryref22_Lay.j1, marquetryref22_Lay.l0, leR, List.range, List.range.loop, wrap64, List.replicate]
theorem up {α : Type} {f : Nat → Option α} (h : ∀ k, LeO (f k) (f (k + 1))) {a : Nat} {r : α} (e : f a = some r) : ∀ n, f (a + n) = some r
  | 0 => e
  | n + 1 => h _ r (up h e n)
/-- The bytes of a datum. -/
def layV (k i : Int) (t : ByteArray) : ByteArray := if datum_fine.v k i t = true then (if k = 0 then strOfNums (leB 1 i) else if k = 1 ∨ k = 4 then strOfNums (leB 4 i) else if k = 2 ∨ k = 5 then strOfNums (leB 8 i) else t) else ⟨#[]⟩
theorem fine_kind {k i : Int} {t : ByteArray} (h : datum_fine.v k i t = true) : k = 0 ∨ k = 1 ∨ k = 2 ∨ k = 4 ∨ k = 5 ∨ k = 6 ∨ k = 7 := by
  by_cases hk : k = 0 ∨ k = 1 ∨ k = 2 ∨ k = 4 ∨ k = 5 ∨ k = 6 ∨ k = 7
  · exact hk
  · have hn : kOf k = none := by
      unfold kOf
      rw [if_neg (by omega), if_neg (by omega), if_neg (by omega), if_neg (by omega), if_neg (by omega), if_neg (by omega), if_neg (by omega)]
    unfold datum_fine.v at h
    rw [hn] at h
    cases h
theorem fine_seven {i : Int} {t : ByteArray} (h : datum_fine.v 7 i t = true) : 1 ≤ (t.size : Int) ∧ (t.size : Int) ≤ 1048576 := by
  have hk : kOf 7 = some (0, 0) := rfl
  unfold datum_fine.v at h
  rw [hk] at h
  simp at h
  refine ⟨?_, by omega⟩
  have h2 : ¬ t.size = 0 := fun h0 => h.2.2.2 (by simpa using nil_size h0)
  omega
theorem of_typed (k i : Int) (t : ByteArray) : datum_Of.f k i t k (if k = 7 then (t.size : Int) else 0) = some (datum_fine.v k i t) := by
  unfold datum_Of.f
  have e1 : ∀ a b, datum_Check.f a b = some (datum_Check.v a b) := fun _ _ => rfl
  have e2 : datum_fine.f k i t = some (datum_fine.v k i t) := rfl
  rw [e1, e2]
  simp only [Option.bind_some]
  cases hf : datum_fine.v k i t with
  | false => simp
  | true =>
    have hk := fine_kind hf
    have hc : datum_Check.v k (if k = 7 then (t.size : Int) else 0) = 0 := by
      rw [check_v]
      by_cases h7 : k = 7
      · subst h7
        have := fine_seven hf
        simp
        omega
      · rw [if_neg h7, if_pos (by omega), if_pos rfl]
    rw [if_pos hc]
    by_cases h7 : k = 7 <;> simp [h7]
theorem lay_v (k i : Int) (t : ByteArray) : ranges_Lay.f 10 k i t = some (layV k i t) := by
  unfold ranges_Lay.f ranges_typed.f layV
  have e0 : (if k = 7 then (some (k, (t.size : Int))) else (some (k, 0))) = some (k, if k = 7 then (t.size : Int) else 0) := by split <;> rfl
  rw [e0]
  simp only [Option.bind_some]
  rw [of_typed]
  simp only [Option.bind_some]
  rw [wide_of]
  simp only [Option.bind_some]
  cases hf : datum_fine.v k i t with
  | false => rfl
  | true =>
    have hk := fine_kind hf
    rcases hk with rfl | rfl | rfl | rfl | rfl | rfl | rfl
    · exact lay_1 _ _ _
    · exact lay_4 _ _ _
    · exact lay_8 _ _ _
    · exact lay_4 _ _ _
    · exact lay_8 _ _ _
    · rfl
    · rfl
theorem ref_lay (k i : Int) (t : ByteArray) (hi : -9223372036854775808 ≤ i ∧ i ≤ 9223372036854775807) : marquetryref22_Lay.f 13 k i t = some (layV k i t) := by
  unfold marquetryref22_Lay.f layV
  rw [up (f := fun n => marquetryref09_Fine.f n k i t) (fun n => marquetryref09_Fine.mono _ _ _ n) (ref_fine k i t hi) 12]
  simp only [Option.bind_some]
  cases hf : datum_fine.v k i t with
  | false => rfl
  | true =>
    have hk := fine_kind hf
    have e1 : ∀ k, marquetryref22_Lay.j1 13 1 k i t = some (strOfNums (leB 1 i)) := fun k => up (f := fun n => marquetryref22_Lay.j1 n 1 k i t) (fun n => (marquetryref22_Lay.mono_l n).1 _ _ _ _) (ref_1 _ _ _) 1
    rcases hk with rfl | rfl | rfl | rfl | rfl | rfl | rfl
    · simp [e1]
    · simp [marquetryref22_Lay.j0, ref_4]
    · simp [marquetryref22_Lay.j0, ref_8]
    · simp [marquetryref22_Lay.j0, ref_4]
    · simp [marquetryref22_Lay.j0, ref_8]
    · simp [marquetryref22_Lay.j0]
    · simp [marquetryref22_Lay.j0]
/-- The bytes as a number, the lowest ahead. -/
def V (s : ByteArray) : Nat → Int
  | 0 => 0
  | k + 1 => V s k + bt s k * 256 ^ k
theorem ref_of (k i : Int) (t : ByteArray) (t0 t1 : Int) (hi : -9223372036854775808 ≤ i ∧ i ≤ 9223372036854775807) : marquetryref09_Of.f 1 k i t t0 t1 = datum_Of.f k i t t0 t1 := by
  unfold datum_Of.f marquetryref09_Of.f
  have e1 : datum_Check.f t0 t1 = some (datum_Check.v t0 t1) := rfl
  have e2 : datum_fine.f k i t = some (datum_fine.v k i t) := rfl
  rw [e1, e2, ref_check t0 t1, ref_fine k i t hi]
  simp
end Go.Proofs.Ytncehlbhjoejhaa.RngAid
end
