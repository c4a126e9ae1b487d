/- Texts of the claim, packed: RngAid. -/
import Derived.Laws.BitsAllLaws
import Derived.Laws.BitsLemmas
import Derived.Test.YtncehlbhjoejhaaZRangesParts4
import Derived.Test.YtncehlbhjoejhaaZRangesParts6
import Derived.Test.YtncehlbhjoejhaaZRangesParts15
import Derived.Test.YtncehlbhjoejhaaZRangesParts16
import Derived.Test.YtncehlbhjoejhaaZRangesParts17
import Derived.Test.YtncehlbhjoejhaaZRangesParts20
section
namespace Go.Proofs.Ytncehlbhjoejhaa.RngAid
open Go.RowKit Go.Proofs.YtncehlbhjoejhaaW.PrintWords Go.Proofs.YtncehlbhjoejhaaW.PrintLast Go.Proofs.YtncehlbhjoejhaaW.PrintMore Go.Proofs.Ytncehlbhjoejhaa.H Go.Proofs.Ytncehlbhjoejhaa.DatAid
set_option linter.unusedVariables false
set_option linter.unusedSimpArgs false
/-- The n lowest bytes of i. -/
def leB (n : Nat) (i : Int) : List Int := (List.range n).map (fun (j : Nat) => shr .i64 i (8 * (j : Int)) % 256)
theorem lay_1 (k i : Int) (t : ByteArray) : ranges_Lay.l0 10 [] 1 0 k i t = some (strOfNums (leB 1 i)) := by
  simp [ranges_Lay.l0, leB, List.range, List.range.loop, wrap64]
theorem lay_4 (k i : Int) (t : ByteArray) : ranges_Lay.l0 10 [] 4 0 k i t = some (strOfNums (leB 4 i)) := by
  simp [ranges_Lay.l0, leB, List.range, List.range.loop, wrap64]
theorem lay_8 (k i : Int) (t : ByteArray) : ranges_Lay.l0 10 [] 8 0 k i t = some (strOfNums (leB 8 i)) := by
  simp [ranges_Lay.l0, leB, List.range, List.range.loop, wrap64]
theorem up {α : Type} {f : Nat → Option α} (h : ∀ k, LeO (f k) (f (k + 1))) {a : Nat} {r : α} (e : f a = some r) : ∀ n, f (a + n) = some r
  | 0 => e
  | n + 1 => h _ r (up h e n)
/-- The bytes of a datum. -/
def layV (k i : Int) (t : ByteArray) : ByteArray := if datum_fine.v k i t = true then (if k = 0 then strOfNums (leB 1 i) else if k = 1 ∨ k = 4 then strOfNums (leB 4 i) else if k = 2 ∨ k = 5 then strOfNums (leB 8 i) else t) else ⟨#[]⟩
theorem fine_kind {k i : Int} {t : ByteArray} (h : datum_fine.v k i t = true) : k = 0 ∨ k = 1 ∨ k = 2 ∨ k = 4 ∨ k = 5 ∨ k = 6 ∨ k = 7 := by
  by_cases hk : k = 0 ∨ k = 1 ∨ k = 2 ∨ k = 4 ∨ k = 5 ∨ k = 6 ∨ k = 7
  · exact hk
  · have hn : kOf k = none := by
      unfold kOf
      rw [if_neg (by omega), if_neg (by omega), if_neg (by omega), if_neg (by omega), if_neg (by omega), if_neg (by omega), if_neg (by omega)]
    unfold datum_fine.v at h
    rw [hn] at h
    cases h
theorem fine_seven {i : Int} {t : ByteArray} (h : datum_fine.v 7 i t = true) : 1 ≤ (t.size : Int) ∧ (t.size : Int) ≤ 1048576 := by
  have hk : kOf 7 = some (0, 0) := rfl
  unfold datum_fine.v at h
  rw [hk] at h
  simp at h
  refine ⟨?_, by omega⟩
  have h2 : ¬ t.size = 0 := fun h0 => h.2.2.2 (by simpa using nil_size h0)
  omega
theorem of_typed (k i : Int) (t : ByteArray) : datum_Of.f k i t k (if k = 7 then (t.size : Int) else 0) = some (datum_fine.v k i t) := by
  unfold datum_Of.f
  have e1 : ∀ a b, datum_Check.f a b = some (datum_Check.v a b) := fun _ _ => rfl
  have e2 : datum_fine.f k i t = some (datum_fine.v k i t) := rfl
  rw [e1, e2]
  simp only [Option.bind_some]
  cases hf : datum_fine.v k i t with
  | false => simp
  | true =>
    have hk := fine_kind hf
    have hc : datum_Check.v k (if k = 7 then (t.size : Int) else 0) = 0 := by
      rw [check_v]
      by_cases h7 : k = 7
      · subst h7
        have := fine_seven hf
        simp
        omega
      · rw [if_neg h7, if_pos (by omega), if_pos rfl]
    rw [if_pos hc]
    by_cases h7 : k = 7 <;> simp [h7]
theorem lay_v (k i : Int) (t : ByteArray) : ranges_Lay.f 10 k i t = some (layV k i t) := by
  unfold ranges_Lay.f ranges_typed.f layV
  have e0 : (if k = 7 then (some (k, (t.size : Int))) else (some (k, 0))) = some (k, if k = 7 then (t.size : Int) else 0) := by split <;> rfl
  rw [e0]
  simp only [Option.bind_some]
  rw [of_typed]
  simp only [Option.bind_some]
  rw [wide_of]
  simp only [Option.bind_some]
  cases hf : datum_fine.v k i t with
  | false => rfl
  | true =>
    have hk := fine_kind hf
    rcases hk with rfl | rfl | rfl | rfl | rfl | rfl | rfl
    · exact lay_1 _ _ _
    · exact lay_4 _ _ _
    · exact lay_8 _ _ _
    · exact lay_4 _ _ _
    · exact lay_8 _ _ _
    · rfl
    · rfl
theorem bt_in (s : ByteArray) (i : Int) : 0 ≤ bt s i ∧ bt s i ≤ 255 := by
  unfold bt
  split
  · rename_i h
    have := (s[i.toNat]'h).toNat_lt
    omega
  · omega
/-- The bytes as a number, the lowest ahead. -/
def V (s : ByteArray) : Nat → Int
  | 0 => 0
  | k + 1 => V s k + bt s k * 256 ^ k
theorem V_range (s : ByteArray) (k : Nat) (hk : k ≤ 8) : 0 ≤ V s k ∧ V s k < 256 ^ k := by
  induction k with
  | zero => exact ⟨Int.le_refl _, by show (0 : Int) < 1; decide⟩
  | succ k ih =>
    have h := ih (by omega)
    have hb := bt_in s (k : Int)
    unfold V
    rcases (show k = 0 ∨ k = 1 ∨ k = 2 ∨ k = 3 ∨ k = 4 ∨ k = 5 ∨ k = 6 ∨ k = 7 by omega) with rfl | rfl | rfl | rfl | rfl | rfl | rfl | rfl <;> simp only [Int.reducePow] at h ⊢ <;> omega
theorem or_join (x b : Int) (i : Nat) (hx : 0 ≤ x) (hx2 : x < 2 ^ i) (hb : 0 ≤ b) (hb2 : b ≤ 255) (hi : i ≤ 56) : bits .or .u64 x (shl .u64 b (i : Int)) = x + b * 2 ^ i := by
  obtain ⟨x, rfl⟩ := Int.eq_ofNat_of_zero_le hx
  obtain ⟨b, rfl⟩ := Int.eq_ofNat_of_zero_le hb
  have hx3 : x < 2 ^ i := by exact_mod_cast hx2
  have hp : (2 : Nat) ^ i ≤ 2 ^ 56 := Nat.pow_le_pow_right (by decide) hi
  have hm : b * 2 ^ i ≤ 255 * 2 ^ 56 := Nat.mul_le_mul (by omega) hp
  have hs : shl .u64 (b : Int) (i : Int) = ((b * 2 ^ i : Nat) : Int) := by
    unfold shl
    have hmin : min (Int.toNat (i : Int)) IntKind.u64.bits = i := by
      have : IntKind.u64.bits = 64 := rfl
      rw [this]
      omega
    rw [hmin]
    have e : ((b : Int) * 2 ^ i) = ((b * 2 ^ i : Nat) : Int) := by push_cast; rfl
    rw [e]
    simp only [IntKind.wrap, IntKind.bits, IntKind.signed, Bool.false_and]
    simp
    omega
  rw [hs, u64_or_nat x _ (by omega) (by omega), Nat.or_comm, nat_join i _ _ (Nat.mul_mod_left _ _) hx3]
  push_cast
  omega
theorem leI_V (s : ByteArray) (k : Nat) (hk : k ≤ 8) : leI s k = V s k := by
  induction k with
  | zero => rfl
  | succ k ih =>
    have h := V_range s k (by omega)
    have hb := bt_in s (k : Int)
    have e : (256 : Int) ^ k = 2 ^ (8 * k) := by rw [Int.pow_mul]; rfl
    have hc : (8 * (k : Int)) = ((8 * k : Nat) : Int) := by push_cast; rfl
    show bits .or .u64 (leI s k) (shl .u64 (bt s k) (8 * (k : Int))) = V s k + bt s k * 256 ^ k
    rw [ih (by omega), hc, e, or_join _ _ (8 * k) h.1 (e ▸ h.2) hb.1 hb.2 (by omega)]
theorem nI_V (s : ByteArray) (k : Nat) (hk : k ≤ 7) : nI s k = V s k := by
  induction k with
  | zero => rfl
  | succ k ih =>
    have h := V_range s k (by omega)
    have hb := bt_in s (k : Int)
    have hu : nI s (k + 1) = (if bt s k ≥ 128 then (if (k : Int) < 7 then wrap64 (wrap64 (nI s k + wrap64 (bt s k % 128 * 2 ^ (8 * k))) + wrap64 (128 * 2 ^ (8 * k))) else if (k : Int) = 7 then wrap64 (wrap64 (nI s k + wrap64 (bt s k % 128 * 2 ^ (8 * k))) + -9223372036854775808) else wrap64 (nI s k + wrap64 (bt s k % 128 * 2 ^ (8 * k)))) else wrap64 (nI s k + wrap64 (bt s k % 128 * 2 ^ (8 * k)))) := rfl
    have hv : V s (k + 1) = V s k + bt s k * 256 ^ k := rfl
    rw [hu, hv, ih (by omega)]
    clear hu hv ih
    unfold wrap64
    generalize bt s (k : Int) = b at *
    generalize V s k = v at *
    rcases (show k = 0 ∨ k = 1 ∨ k = 2 ∨ k = 3 ∨ k = 4 ∨ k = 5 ∨ k = 6 by omega) with rfl | rfl | rfl | rfl | rfl | rfl | rfl <;> simp only [Int.reducePow, Nat.reduceMul] at h ⊢ <;> split <;> (try simp) <;> omega
theorem nI_8 (s : ByteArray) : nI s 8 = wrap64 (V s 8) := by
  have h := V_range s 7 (by omega)
  have hb := bt_in s 7
  have hu : nI s 8 = (if bt s 7 ≥ 128 then (if (7 : Int) < 7 then wrap64 (wrap64 (nI s 7 + wrap64 (bt s 7 % 128 * 2 ^ (8 * 7))) + wrap64 (128 * 2 ^ (8 * 7))) else if (7 : Int) = 7 then wrap64 (wrap64 (nI s 7 + wrap64 (bt s 7 % 128 * 2 ^ (8 * 7))) + -9223372036854775808) else wrap64 (nI s 7 + wrap64 (bt s 7 % 128 * 2 ^ (8 * 7)))) else wrap64 (nI s 7 + wrap64 (bt s 7 % 128 * 2 ^ (8 * 7)))) := rfl
  have hv : V s 8 = V s 7 + bt s 7 * 256 ^ 7 := rfl
  rw [hu, hv, nI_V s 7 (by omega)]
  unfold wrap64
  generalize bt s 7 = b at *
  generalize V s 7 = v at *
  simp only [Int.reducePow, Nat.reduceMul] at h ⊢
  split <;> simp <;> omega
theorem shr_at (x : Int) (j : Nat) (hj : j ≤ 8) : shr .i64 x (8 * (j : Int)) = x / 2 ^ (8 * j) := by
  unfold shr
  rw [show min (8 * (j : Int)).toNat IntKind.i64.bits = 8 * j by
    have : IntKind.i64.bits = 64 := rfl
    rw [this]
    omega]
def iV (t0 : Int) (s : ByteArray) : Int := if t0 = 1 then (if nI s s.size > 2147483647 then wrap64 (nI s s.size - 4294967296) else nI s s.size) else nI s s.size
theorem str_size (l : List Int) : (strOfNums l).size = l.length := by
  unfold strOfNums
  simp [ByteArray.size]
theorem leB_len (n : Nat) (i : Int) : (leB n i).length = n := by simp [leB]
theorem iV_read (t0 : Int) (s : ByteArray) (hk : t0 = 0 ∨ t0 = 1 ∨ t0 = 2 ∨ t0 = 4 ∨ t0 = 5) (hw : wideI t0 = (s.size : Int)) : iV t0 s = readI t0 s := by
  rcases hk with rfl | rfl | rfl | rfl | rfl
  · have h : s.size = 1 := by simp [wideI] at hw; omega
    have hv := V_range s 1 (by omega)
    rw [← wrap_else 0 s (by decide)]
    unfold iV
    rw [h, leI_V s 1 (by omega), nI_V s 1 (by omega)]
    simp at hv ⊢
    unfold wrap64
    omega
  · have h : s.size = 4 := by simp [wideI] at hw; omega
    have hv := V_range s 4 (by omega)
    rw [← wrap_one s]
    unfold iV
    rw [h, leI_V s 4 (by omega), nI_V s 4 (by omega)]
    simp at hv ⊢
    unfold wrap64 wrap32
    split <;> omega
  · have h : s.size = 8 := by simp [wideI] at hw; omega
    rw [← wrap_else 2 s (by decide)]
    unfold iV
    rw [h, leI_V s 8 (by omega), nI_8]
    simp
  · have h : s.size = 4 := by simp [wideI] at hw; omega
    have hv := V_range s 4 (by omega)
    rw [← wrap_else 4 s (by decide)]
    unfold iV
    rw [h, leI_V s 4 (by omega), nI_V s 4 (by omega)]
    simp at hv ⊢
    unfold wrap64
    omega
  · have h : s.size = 8 := by simp [wideI] at hw; omega
    rw [← wrap_else 5 s (by decide)]
    unfold iV
    rw [h, leI_V s 8 (by omega), nI_8]
    simp
end Go.Proofs.Ytncehlbhjoejhaa.RngAid
end
