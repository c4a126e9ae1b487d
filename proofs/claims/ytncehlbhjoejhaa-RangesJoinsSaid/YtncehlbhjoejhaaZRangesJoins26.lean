/- Texts of the claim, packed: RngAid. -/
import Derived.Laws.BitsAllLaws
import Derived.Laws.BitsLemmas
import Derived.Test.YtncehlbhjoejhaaZRangesJoins4
import Derived.Test.YtncehlbhjoejhaaZRangesJoins6
import Derived.Test.YtncehlbhjoejhaaZRangesJoins15
import Derived.Test.YtncehlbhjoejhaaZRangesJoins16
import Derived.Test.YtncehlbhjoejhaaZRangesJoins17
import Derived.Test.YtncehlbhjoejhaaZRangesJoins19
section
namespace Go.Proofs.Ytncehlbhjoejhaa.RngAid
open Go.RowKit Go.Proofs.YtncehlbhjoejhaaW.PrintWords Go.Proofs.YtncehlbhjoejhaaW.PrintLast Go.Proofs.YtncehlbhjoejhaaW.PrintMore Go.Proofs.Ytncehlbhjoejhaa.H Go.Proofs.Ytncehlbhjoejhaa.DatAid
set_option linter.unusedVariables false
set_option linter.unusedSimpArgs false
theorem i64_and255 (n : Int) : bits .and .i64 n 255 = n % 256 := by
 have h255 : (BitVec.ofInt 64 255).toNat = 2 ^ 8 - 1 := by decide
 have key : (BitVec.ofInt 64 n &&& BitVec.ofInt 64 255).toNat = (n % ((2 ^ 64 : Nat) : Int)).toNat % 2 ^ 8 := by
  rw [BitVec.toNat_and, BitVec.toNat_ofInt, h255, Nat.and_two_pow_sub_one_eq_mod]
 show IntKind.i64.wrap ((BitVec.ofInt 64 n &&& BitVec.ofInt 64 255).toNat : Nat) = n % 256
 rw [key, IntKind.wrap_i64]
 omega
theorem and_mod (n : Int) : bits .and .i64 n 255 % 256 = n % 256 := by rw [i64_and255]; omega
def leB (n : Nat) (i : Int) : List Int := (List.range n).map (fun (j : Nat) => shr .i64 i (8 * (j : Int)) % 256)
def leR (n : Nat) (i : Int) : List Int := (List.range n).map (fun (j : Nat) => bits .and .i64 (shr .i64 i (8 * (j : Int))) 255 % 256)
theorem leR_eq (n : Nat) (i : Int) : leR n i = leB n i := by
 unfold leR leB
 simp only [and_mod]
theorem lay_1 (k i : Int) (t : ByteArray) : ranges_Lay.l0 10 [] 1 0 k i t = some (strOfNums (leB 1 i)) := by
 simp [ranges_Lay.l0, leB, List.range, List.range.loop, wrap64]
theorem lay_4 (k i : Int) (t : ByteArray) : ranges_Lay.l0 10 [] 4 0 k i t = some (strOfNums (leB 4 i)) := by
 simp [ranges_Lay.l0, leB, List.range, List.range.loop, wrap64]
theorem lay_8 (k i : Int) (t : ByteArray) : ranges_Lay.l0 10 [] 8 0 k i t = some (strOfNums (leB 8 i)) := by
 simp [ranges_Lay.l0, leB, List.range, List.range.loop, wrap64]
theorem ref_1 (k i : Int) (t : ByteArray) : marquetryref22_Lay.j1 12 1 k i t = some (strOfNums (leB 1 i)) := by
 rw [← leR_eq]
 simp [marquetryref22_Lay.j1, marquetryref22_Lay.l0, leR, List.range, List.range.loop, wrap64, List.replicate]
theorem ref_4 (k i : Int) (t : ByteArray) : marquetryref22_Lay.j1 12 4 k i t = some (strOfNums (leB 4 i)) := by
 rw [← leR_eq]
 simp [marquetryref22_Lay.j1, marquetryref22_Lay.l0, leR, List.range, List.range.loop, wrap64, List.replicate]
theorem ref_8 (k i : Int) (t : ByteArray) : marquetryref22_Lay.j1 12 8 k i t = some (strOfNums (leB 8 i)) := by
 rw [← leR_eq]
 simp [marquetryref22_Lay.j1, marquetryref22_Lay.l0, leR, List.range, List.range.loop, wrap64, List.replicate]
theorem up {α : Type} {f : Nat → Option α} (h : ∀ k, LeO (f k) (f (k + 1))) {a : Nat} {r : α} (e : f a = some r) : ∀ n, f (a + n) = some r
 | 0 => e
 | n + 1 => h _ r (up h e n)
def layV (k i : Int) (t : ByteArray) : ByteArray := if datum_fine.v k i t = true then (if k = 0 then strOfNums (leB 1 i) else if k = 1 ∨ k = 4 then strOfNums (leB 4 i) else if k = 2 ∨ k = 5 then strOfNums (leB 8 i) else t) else ⟨#[]⟩
theorem fine_kind {k i : Int} {t : ByteArray} (h : datum_fine.v k i t = true) : k = 0 ∨ k = 1 ∨ k = 2 ∨ k = 4 ∨ k = 5 ∨ k = 6 ∨ k = 7 := by
 by_cases hk : k = 0 ∨ k = 1 ∨ k = 2 ∨ k = 4 ∨ k = 5 ∨ k = 6 ∨ k = 7
 ·exact hk
 ·have hn : kOf k = none := by
   unfold kOf
   rw [if_neg (by omega), if_neg (by omega), if_neg (by omega), if_neg (by omega), if_neg (by omega), if_neg (by omega), if_neg (by omega)]
  unfold datum_fine.v at h
  rw [hn] at h
  cases h
theorem fine_seven {i : Int} {t : ByteArray} (h : datum_fine.v 7 i t = true) : 1 ≤ (t.size : Int) ∧ (t.size : Int) ≤ 1048576 := by
 have hk : kOf 7 = some (0, 0) := rfl
 unfold datum_fine.v at h
 rw [hk] at h
 simp at h
 refine ⟨?_, by omega⟩
 have h2 : ¬ t.size = 0 := fun h0 => h.2.2.2 (by simpa using nil_size h0)
 omega
theorem of_typed (k i : Int) (t : ByteArray) : datum_Of.f k i t k (if k = 7 then (t.size : Int) else 0) = some (datum_fine.v k i t) := by
 unfold datum_Of.f
 have e1 : ∀ a b, datum_Check.f a b = some (datum_Check.v a b) := fun _ _ => rfl
 have e2 : datum_fine.f k i t = some (datum_fine.v k i t) := rfl
 rw [e1, e2]
 simp only [Option.bind_some]
 cases hf : datum_fine.v k i t with
 | false => simp
 | true =>
  have hk := fine_kind hf
  have hc : datum_Check.v k (if k = 7 then (t.size : Int) else 0) = 0 := by
   rw [check_v]
   by_cases h7 : k = 7
   ·subst h7
    have := fine_seven hf
    simp
    omega
   ·rw [if_neg h7, if_pos (by omega), if_pos rfl]
  rw [if_pos hc]
  by_cases h7 : k = 7 <;> simp [h7]
theorem lay_v (k i : Int) (t : ByteArray) : ranges_Lay.f 10 k i t = some (layV k i t) := by
 unfold ranges_Lay.f ranges_typed.f layV
 have e0 : (if k = 7 then (some (k, (t.size : Int))) else (some (k, 0))) = some (k, if k = 7 then (t.size : Int) else 0) := by split <;> rfl
 rw [e0]
 simp only [Option.bind_some]
 rw [of_typed]
 simp only [Option.bind_some]
 rw [wide_of]
 simp only [Option.bind_some]
 cases hf : datum_fine.v k i t with
 | false => rfl
 | true =>
  have hk := fine_kind hf
  rcases hk with rfl | rfl | rfl | rfl | rfl | rfl | rfl
  ·exact lay_1 _ _ _
  ·exact lay_4 _ _ _
  ·exact lay_8 _ _ _
  ·exact lay_4 _ _ _
  ·exact lay_8 _ _ _
  ·rfl
  ·rfl
theorem ref_lay (k i : Int) (t : ByteArray) (hi : -9223372036854775808 ≤ i ∧ i ≤ 9223372036854775807) : marquetryref22_Lay.f 13 k i t = some (layV k i t) := by
 unfold marquetryref22_Lay.f layV
 rw [up (f := fun n => marquetryref09_Fine.f n k i t) (fun n => marquetryref09_Fine.mono _ _ _ n) (ref_fine k i t hi) 12]
 simp only [Option.bind_some]
 cases hf : datum_fine.v k i t with
 | false => rfl
 | true =>
  have hk := fine_kind hf
  have e1 : ∀ k, marquetryref22_Lay.j1 13 1 k i t = some (strOfNums (leB 1 i)) := fun k => up (f := fun n => marquetryref22_Lay.j1 n 1 k i t) (fun n => (marquetryref22_Lay.mono_l n).1 _ _ _ _) (ref_1 _ _ _) 1
  rcases hk with rfl | rfl | rfl | rfl | rfl | rfl | rfl
  ·simp [e1]
  ·simp [marquetryref22_Lay.j0, ref_4]
  ·simp [marquetryref22_Lay.j0, ref_8]
  ·simp [marquetryref22_Lay.j0, ref_4]
  ·simp [marquetryref22_Lay.j0, ref_8]
  ·simp [marquetryref22_Lay.j0]
  ·simp [marquetryref22_Lay.j0]
theorem bt_in (s : ByteArray) (i : Int) : 0 ≤ bt s i ∧ bt s i ≤ 255 := by
 unfold bt
 split
 ·rename_i h
  have := (s[i.toNat]'h).toNat_lt
  omega
 ·omega
def V (s : ByteArray) : Nat → Int
 | 0 => 0
 | k + 1 => V s k + bt s k * 256 ^ k
theorem V_range (s : ByteArray) (k : Nat) (hk : k ≤ 8) : 0 ≤ V s k ∧ V s k < 256 ^ k := by
 induction k with
 | zero => exact ⟨Int.le_refl _, by show (0 : Int) < 1; decide⟩
 | succ k ih =>
  have h := ih (by omega)
  have hb := bt_in s (k : Int)
  unfold V
  rcases (show k = 0 ∨ k = 1 ∨ k = 2 ∨ k = 3 ∨ k = 4 ∨ k = 5 ∨ k = 6 ∨ k = 7 by omega) with rfl | rfl | rfl | rfl | rfl | rfl | rfl | rfl <;> simp only [Int.reducePow] at h ⊢ <;> omega
theorem or_join (x b : Int) (i : Nat) (hx : 0 ≤ x) (hx2 : x < 2 ^ i) (hb : 0 ≤ b) (hb2 : b ≤ 255) (hi : i ≤ 56) : bits .or .u64 x (shl .u64 b (i : Int)) = x + b * 2 ^ i := by
 obtain ⟨x, rfl⟩ := Int.eq_ofNat_of_zero_le hx
 obtain ⟨b, rfl⟩ := Int.eq_ofNat_of_zero_le hb
 have hx3 : x < 2 ^ i := by exact_mod_cast hx2
 have hp : (2 : Nat) ^ i ≤ 2 ^ 56 := Nat.pow_le_pow_right (by decide) hi
 have hm : b * 2 ^ i ≤ 255 * 2 ^ 56 := Nat.mul_le_mul (by omega) hp
 have hs : shl .u64 (b : Int) (i : Int) = ((b * 2 ^ i : Nat) : Int) := by
  unfold shl
  have hmin : min (Int.toNat (i : Int)) IntKind.u64.bits = i := by
   have : IntKind.u64.bits = 64 := rfl
   rw [this]
   omega
  rw [hmin]
  have e : ((b : Int) * 2 ^ i) = ((b * 2 ^ i : Nat) : Int) := by push_cast; rfl
  rw [e]
  simp only [IntKind.wrap, IntKind.bits, IntKind.signed, Bool.false_and]
  simp
  omega
 rw [hs, u64_or_nat x _ (by omega) (by omega), Nat.or_comm, nat_join i _ _ (Nat.mul_mod_left _ _) hx3]
 push_cast
 omega
theorem leI_V (s : ByteArray) (k : Nat) (hk : k ≤ 8) : leI s k = V s k := by
 induction k with
 | zero => rfl
 | succ k ih =>
  have h := V_range s k (by omega)
  have hb := bt_in s (k : Int)
  have e : (256 : Int) ^ k = 2 ^ (8 * k) := by rw [Int.pow_mul]; rfl
  have hc : (8 * (k : Int)) = ((8 * k : Nat) : Int) := by push_cast; rfl
  show bits .or .u64 (leI s k) (shl .u64 (bt s k) (8 * (k : Int))) = V s k + bt s k * 256 ^ k
  rw [ih (by omega), hc, e, or_join _ _ (8 * k) h.1 (e ▸ h.2) hb.1 hb.2 (by omega)]
theorem nI_V (s : ByteArray) (k : Nat) (hk : k ≤ 7) : nI s k = V s k := by
 induction k with
 | zero => rfl
 | succ k ih =>
  have h := V_range s k (by omega)
  have hb := bt_in s (k : Int)
  have hu : nI s (k + 1) = (if bt s k ≥ 128 then (if (k : Int) < 7 then wrap64 (wrap64 (nI s k + wrap64 (bt s k % 128 * 2 ^ (8 * k))) + wrap64 (128 * 2 ^ (8 * k))) else if (k : Int) = 7 then wrap64 (wrap64 (nI s k + wrap64 (bt s k % 128 * 2 ^ (8 * k))) + -9223372036854775808) else wrap64 (nI s k + wrap64 (bt s k % 128 * 2 ^ (8 * k)))) else wrap64 (nI s k + wrap64 (bt s k % 128 * 2 ^ (8 * k)))) := rfl
  have hv : V s (k + 1) = V s k + bt s k * 256 ^ k := rfl
  rw [hu, hv, ih (by omega)]
  clear hu hv ih
  unfold wrap64
  generalize bt s (k : Int) = b at *
  generalize V s k = v at *
  rcases (show k = 0 ∨ k = 1 ∨ k = 2 ∨ k = 3 ∨ k = 4 ∨ k = 5 ∨ k = 6 by omega) with rfl | rfl | rfl | rfl | rfl | rfl | rfl <;> simp only [Int.reducePow, Nat.reduceMul] at h ⊢ <;> split <;> (try simp) <;> omega
theorem nI_8 (s : ByteArray) : nI s 8 = wrap64 (V s 8) := by
 have h := V_range s 7 (by omega)
 have hb := bt_in s 7
 have hu : nI s 8 = (if bt s 7 ≥ 128 then (if (7 : Int) < 7 then wrap64 (wrap64 (nI s 7 + wrap64 (bt s 7 % 128 * 2 ^ (8 * 7))) + wrap64 (128 * 2 ^ (8 * 7))) else if (7 : Int) = 7 then wrap64 (wrap64 (nI s 7 + wrap64 (bt s 7 % 128 * 2 ^ (8 * 7))) + -9223372036854775808) else wrap64 (nI s 7 + wrap64 (bt s 7 % 128 * 2 ^ (8 * 7)))) else wrap64 (nI s 7 + wrap64 (bt s 7 % 128 * 2 ^ (8 * 7)))) := rfl
 have hv : V s 8 = V s 7 + bt s 7 * 256 ^ 7 := rfl
 rw [hu, hv, nI_V s 7 (by omega)]
 unfold wrap64
 generalize bt s 7 = b at *
 generalize V s 7 = v at *
 simp only [Int.reducePow, Nat.reduceMul] at h ⊢
 split <;> simp <;> omega
theorem shr_at (x : Int) (j : Nat) (hj : j ≤ 8) : shr .i64 x (8 * (j : Int)) = x / 2 ^ (8 * j) := by
 unfold shr
 rw [show min (8 * (j : Int)).toNat IntKind.i64.bits = 8 * j by
  have : IntKind.i64.bits = 64 := rfl
  rw [this]
  omega]
theorem back_1 (s : ByteArray) (m : Int) : leB 1 (V s 1 + m * 256) = [bt s 0] := by
 have h0 := bt_in s 0
 have hv : V s 1 = 0 + bt s 0 * 256 ^ 0 := rfl
 rw [hv]
 unfold leB
 simp only [List.range, List.range.loop, List.map_cons, List.map_nil]
 rw [shr_at _ 0 (by omega)]
 simp only [Int.reducePow, Nat.reduceMul]
 generalize bt s 0 = b0 at *
 congr 1
 omega
theorem back_4 (s : ByteArray) (m : Int) : leB 4 (V s 4 + m * 4294967296) = [bt s 0, bt s 1, bt s 2, bt s 3] := by
 have h0 := bt_in s 0
 have h1 := bt_in s 1
 have h2 := bt_in s 2
 have h3 := bt_in s 3
 have hv : V s 4 = 0 + bt s 0 * 256 ^ 0 + bt s 1 * 256 ^ 1 + bt s 2 * 256 ^ 2 + bt s 3 * 256 ^ 3 := rfl
 rw [hv]
 unfold leB
 simp only [List.range, List.range.loop, List.map_cons, List.map_nil]
 rw [shr_at _ 0 (by omega), shr_at _ 1 (by omega), shr_at _ 2 (by omega), shr_at _ 3 (by omega)]
 simp only [Int.reducePow, Nat.reduceMul]
 generalize bt s 0 = b0 at *
 generalize bt s 1 = b1 at *
 generalize bt s 2 = b2 at *
 generalize bt s 3 = b3 at *
 simp only [List.cons.injEq, and_true]
 refine ⟨?_, ?_, ?_, ?_⟩ <;> omega
theorem back_8 (s : ByteArray) (m : Int) : leB 8 (V s 8 + m * 18446744073709551616) = [bt s 0, bt s 1, bt s 2, bt s 3, bt s 4, bt s 5, bt s 6, bt s 7] := by
 have h0 := bt_in s 0
 have h1 := bt_in s 1
 have h2 := bt_in s 2
 have h3 := bt_in s 3
 have h4 := bt_in s 4
 have h5 := bt_in s 5
 have h6 := bt_in s 6
 have h7 := bt_in s 7
 have hv : V s 8 = 0 + bt s 0 * 256 ^ 0 + bt s 1 * 256 ^ 1 + bt s 2 * 256 ^ 2 + bt s 3 * 256 ^ 3 + bt s 4 * 256 ^ 4 + bt s 5 * 256 ^ 5 + bt s 6 * 256 ^ 6 + bt s 7 * 256 ^ 7 := rfl
 rw [hv]
 unfold leB
 simp only [List.range, List.range.loop, List.map_cons, List.map_nil]
 rw [shr_at _ 0 (by omega), shr_at _ 1 (by omega), shr_at _ 2 (by omega), shr_at _ 3 (by omega), shr_at _ 4 (by omega), shr_at _ 5 (by omega), shr_at _ 6 (by omega), shr_at _ 7 (by omega)]
 simp only [Int.reducePow, Nat.reduceMul]
 generalize bt s 0 = b0 at *
 generalize bt s 1 = b1 at *
 generalize bt s 2 = b2 at *
 generalize bt s 3 = b3 at *
 generalize bt s 4 = b4 at *
 generalize bt s 5 = b5 at *
 generalize bt s 6 = b6 at *
 generalize bt s 7 = b7 at *
 simp only [List.cons.injEq, and_true]
 refine ⟨?_, ?_, ?_, ?_, ?_, ?_, ?_, ?_⟩ <;> omega
theorem ref_of (k i : Int) (t : ByteArray) (t0 t1 : Int) (hi : -9223372036854775808 ≤ i ∧ i ≤ 9223372036854775807) : marquetryref09_Of.f 1 k i t t0 t1 = datum_Of.f k i t t0 t1 := by
 unfold datum_Of.f marquetryref09_Of.f
 have e1 : datum_Check.f t0 t1 = some (datum_Check.v t0 t1) := rfl
 have e2 : datum_fine.f k i t = some (datum_fine.v k i t) := rfl
 rw [e1, e2, ref_check t0 t1, ref_fine k i t hi]
 simp
theorem str_map (l : List UInt8) : strOfNums (l.map fun b => (b.toNat : Int)) = ⟨l.toArray⟩ := by
 unfold strOfNums
 rw [List.map_map]
 congr 2
 conv => rhs; rw [← List.map_id l]
 apply List.map_congr_left
 intro b _
 simp
theorem bts (s : ByteArray) : (List.range s.size).map (fun (j : Nat) => bt s (j : Int)) = s.data.toList.map (fun b => (b.toNat : Int)) := by
 apply List.ext_getElem
 ·simp
 ·intro j h1 h2
  have hj : j < s.size := by simpa using h1
  simp only [List.getElem_map, List.getElem_range]
  unfold bt
  rw [dif_pos (by simpa using hj)]
  simp
  rfl
theorem str_bts (s : ByteArray) : strOfNums ((List.range s.size).map (fun (j : Nat) => bt s (j : Int))) = s := by
 rw [bts, str_map]
theorem str_1 (s : ByteArray) (h : s.size = 1) : strOfNums [bt s 0] = s := by
 have e := str_bts s
 rw [h] at e
 exact e
theorem str_4 (s : ByteArray) (h : s.size = 4) : strOfNums [bt s 0, bt s 1, bt s 2, bt s 3] = s := by
 have e := str_bts s
 rw [h] at e
 exact e
theorem str_8 (s : ByteArray) (h : s.size = 8) : strOfNums [bt s 0, bt s 1, bt s 2, bt s 3, bt s 4, bt s 5, bt s 6, bt s 7] = s := by
 have e := str_bts s
 rw [h] at e
 exact e
theorem j1_v (s : ByteArray) (t0 t1 i : Int) (t : ByteArray) (hi : -9223372036854775808 ≤ i ∧ i ≤ 9223372036854775807) : marquetryref22_Read.j1 14 s t0 t1 t0 i t = if ofB t0 t1 ⟨t0, i, t⟩ = true then (if (layV t0 i t).toList = s.toList then some (t0, i, t, 0) else some (0, 0, ⟨#[]⟩, 320)) else some (0, 0, ⟨#[]⟩, 320) := by
 have e1 : marquetryref09_Of.f 13 t0 i t t0 t1 = some (ofB t0 t1 ⟨t0, i, t⟩) := up (f := fun n => marquetryref09_Of.f n t0 i t t0 t1) (fun n => marquetryref09_Of.mono _ _ _ _ _ n) ((ref_of t0 i t t0 t1 hi).trans (of_val t0 t1 ⟨t0, i, t⟩)) 12
 have e2 := ref_lay t0 i t hi
 unfold marquetryref22_Read.j1
 show (marquetryref09_Of.f 13 t0 i t t0 t1).bind _ = _
 rw [e1]
 simp only [Option.bind_some]
 show (if ofB t0 t1 ⟨t0, i, t⟩ = true then (marquetryref22_Lay.f 13 t0 i t).bind _ else _) = _
 rw [e2]
 rfl
theorem kind_of {t0 t1 : Int} (hc : datum_Check.v t0 t1 = 0) : t0 = 0 ∨ t0 = 1 ∨ t0 = 2 ∨ t0 = 4 ∨ t0 = 5 ∨ t0 = 6 ∨ t0 = 7 := by
 rw [check_v] at hc
 by_cases h : t0 = 0 ∨ t0 = 1 ∨ t0 = 2 ∨ t0 = 4 ∨ t0 = 5 ∨ t0 = 6
 ·omega
 ·rw [if_neg h] at hc
  by_cases h7 : t0 = 7
  ·omega
  ·rw [if_neg h7] at hc
   exact absurd hc (by decide)
theorem ofB_fine (t0 t1 i : Int) (t : ByteArray) (h : ofB t0 t1 ⟨t0, i, t⟩ = true) : datum_fine.v t0 i t = true := by
 have e := of_val t0 t1 ⟨t0, i, t⟩
 rw [h] at e
 unfold datum_Of.f at e
 cases hf : datum_fine.v t0 i t with
 | true => rfl
 | false =>
  have e2 : datum_fine.f t0 i t = some false := congrArg some hf
  have e1 : datum_Check.f t0 t1 = some (datum_Check.v t0 t1) := rfl
  rw [e1, e2] at e
  simp at e
theorem num_range (s : ByteArray) (h : s.size ≤ 8) : -9223372036854775808 ≤ nI s s.size ∧ nI s s.size ≤ 9223372036854775807 := by
 by_cases h8 : s.size = 8
 ·rw [h8, nI_8]
  unfold wrap64
  omega
 ·rw [nI_V s _ (by omega)]
  have hv := V_range s s.size h
  have hn : (256 : Nat) ^ s.size ≤ 72057594037927936 := Nat.le_trans (Nat.pow_le_pow_right (by decide) (show s.size ≤ 7 by omega)) (by decide)
  have e : (256 : Int) ^ s.size = ((256 ^ s.size : Nat) : Int) := (Int.natCast_pow 256 s.size).symm
  rw [e] at hv
  omega
theorem read_text (t0 t1 : Int) (s : ByteArray) (hc : datum_Check.v t0 t1 = 0) (htxt : t0 = 6 ∨ t0 = 7) :
  (if t0 = 6 then marquetryref22_Read.j0 16 s (t0 == 6) t0 t1 t0 0 ⟨#[]⟩ else marquetryref22_Read.j0 16 s (t0 == 7) t0 t1 t0 0 ⟨#[]⟩) = if ofB t0 t1 ⟨t0, 0, s⟩ = true then some (t0, 0, s, 0) else some (0, 0, ⟨#[]⟩, 320) := by
 have hj : (if t0 = 6 then marquetryref22_Read.j0 16 s (t0 == 6) t0 t1 t0 0 ⟨#[]⟩ else marquetryref22_Read.j0 16 s (t0 == 7) t0 t1 t0 0 ⟨#[]⟩) = marquetryref22_Read.j1 15 s t0 t1 t0 0 s := by
  rcases htxt with rfl | rfl <;> simp [marquetryref22_Read.j0]
 rw [hj]
 by_cases hob : ofB t0 t1 ⟨t0, 0, s⟩ = true
 ·have hl : layV t0 0 s = s := by
   unfold layV
   rw [if_pos (ofB_fine t0 t1 0 s hob)]
   rcases htxt with rfl | rfl <;> simp
  have e := j1_v s t0 t1 0 s (by omega)
  rw [if_pos hob, hl, if_pos rfl] at e
  rw [if_pos hob]
  exact up (f := fun n => marquetryref22_Read.j1 n s t0 t1 t0 0 s) (fun n => (marquetryref22_Read.mono_l n).1 _ _ _ _ _ _) e 1
 ·have e := j1_v s t0 t1 0 s (by omega)
  rw [if_neg hob] at e
  rw [if_neg hob]
  exact up (f := fun n => marquetryref22_Read.j1 n s t0 t1 t0 0 s) (fun n => (marquetryref22_Read.mono_l n).1 _ _ _ _ _ _) e 1
def iV (t0 : Int) (s : ByteArray) : Int := if t0 = 1 then (if nI s s.size > 2147483647 then wrap64 (nI s s.size - 4294967296) else nI s s.size) else nI s s.size
theorem iV_range (t0 : Int) (s : ByteArray) (h : s.size ≤ 8) : -9223372036854775808 ≤ iV t0 s ∧ iV t0 s ≤ 9223372036854775807 := by
 have := num_range s h
 unfold iV wrap64
 repeat' split
 all_goals omega
theorem str_size (l : List Int) : (strOfNums l).size = l.length := by
 unfold strOfNums
 simp [ByteArray.size]
theorem leB_len (n : Nat) (i : Int) : (leB n i).length = n := by simp [leB]
theorem num_j0 (t0 t1 : Int) (s : ByteArray) (hk : t0 = 0 ∨ t0 = 1 ∨ t0 = 2 ∨ t0 = 4 ∨ t0 = 5) :
  (if t0 = 6 then marquetryref22_Read.j0 16 s (t0 == 6) t0 t1 t0 0 ⟨#[]⟩ else marquetryref22_Read.j0 16 s (t0 == 7) t0 t1 t0 0 ⟨#[]⟩) = if (s.size : Int) > 8 then some (0, 0, ⟨#[]⟩, 320) else marquetryref22_Read.j1 15 s t0 t1 t0 (iV t0 s) ⟨#[]⟩ := by
 by_cases h8 : (s.size : Int) > 8
 ·rw [if_pos h8]
  rcases hk with rfl | rfl | rfl | rfl | rfl
  all_goals
   simp only [marquetryref22_Read.j0, if_pos h8]
   rfl
 ·rw [if_neg h8]
  have hn : marquetryref22_number.f s = some (nI s s.size) := by
   unfold marquetryref22_number.f
   rw [if_pos (by omega)]
  unfold iV
  rcases hk with rfl | rfl | rfl | rfl | rfl
  all_goals simp only [marquetryref22_Read.j0, if_neg h8, hn, Option.bind_some]
  ·rfl
  ·by_cases hb : nI s s.size > 2147483647
   ·simp [hb]
   ·simp [hb]
  ·rfl
  ·rfl
  ·rfl
theorem iV_read (t0 : Int) (s : ByteArray) (hk : t0 = 0 ∨ t0 = 1 ∨ t0 = 2 ∨ t0 = 4 ∨ t0 = 5) (hw : wideI t0 = (s.size : Int)) : iV t0 s = readI t0 s := by
 rcases hk with rfl | rfl | rfl | rfl | rfl
 ·have h : s.size = 1 := by simp [wideI] at hw; omega
  have hv := V_range s 1 (by omega)
  rw [← wrap_else 0 s (by decide)]
  unfold iV
  rw [h, leI_V s 1 (by omega), nI_V s 1 (by omega)]
  simp at hv ⊢
  unfold wrap64
  omega
 ·have h : s.size = 4 := by simp [wideI] at hw; omega
  have hv := V_range s 4 (by omega)
  rw [← wrap_one s]
  unfold iV
  rw [h, leI_V s 4 (by omega), nI_V s 4 (by omega)]
  simp at hv ⊢
  unfold wrap64 wrap32
  split <;> omega
 ·have h : s.size = 8 := by simp [wideI] at hw; omega
  rw [← wrap_else 2 s (by decide)]
  unfold iV
  rw [h, leI_V s 8 (by omega), nI_8]
  simp
 ·have h : s.size = 4 := by simp [wideI] at hw; omega
  have hv := V_range s 4 (by omega)
  rw [← wrap_else 4 s (by decide)]
  unfold iV
  rw [h, leI_V s 4 (by omega), nI_V s 4 (by omega)]
  simp at hv ⊢
  unfold wrap64
  omega
 ·have h : s.size = 8 := by simp [wideI] at hw; omega
  rw [← wrap_else 5 s (by decide)]
  unfold iV
  rw [h, leI_V s 8 (by omega), nI_8]
  simp
theorem iV_at8 (s : ByteArray) : wrap64 (V s 8) = V s 8 + (-((V s 8 + 9223372036854775808) / 18446744073709551616)) * 18446744073709551616 := by
 unfold wrap64
 omega
theorem lay_back (t0 : Int) (s : ByteArray) (hk : t0 = 0 ∨ t0 = 1 ∨ t0 = 2 ∨ t0 = 4 ∨ t0 = 5) (hw : wideI t0 = (s.size : Int)) (hf : datum_fine.v t0 (iV t0 s) ⟨#[]⟩ = true) : layV t0 (iV t0 s) ⟨#[]⟩ = s := by
 unfold layV
 rw [if_pos hf]
 clear hf
 rcases hk with rfl | rfl | rfl | rfl | rfl
 ·have h : s.size = 1 := by simp [wideI] at hw; omega
  have e : iV 0 s = V s 1 + 0 * 256 := by unfold iV; rw [h, nI_V s 1 (by omega)]; simp
  rw [if_pos rfl, e, back_1, str_1 s h]
 ·have h : s.size = 4 := by simp [wideI] at hw; omega
  have e : ∃ m, iV 1 s = V s 4 + m * 4294967296 := by
   unfold iV
   rw [h, nI_V s 4 (by omega), if_pos rfl]
   have hv := V_range s 4 (by omega)
   simp at hv
   split
   ·exact ⟨-1, by unfold wrap64; omega⟩
   ·exact ⟨0, by omega⟩
  obtain ⟨m, e⟩ := e
  rw [if_neg (by decide), if_pos (.inl rfl), e, back_4, str_4 s h]
 ·have h : s.size = 8 := by simp [wideI] at hw; omega
  have e : iV 2 s = wrap64 (V s 8) := by unfold iV; rw [h, nI_8]; simp
  rw [if_neg (by decide), if_neg (by decide), if_pos (.inl rfl), e, iV_at8, back_8, str_8 s h]
 ·have h : s.size = 4 := by simp [wideI] at hw; omega
  have e : iV 4 s = V s 4 + 0 * 4294967296 := by unfold iV; rw [h, nI_V s 4 (by omega)]; simp
  rw [if_neg (by decide), if_pos (.inr rfl), e, back_4, str_4 s h]
 ·have h : s.size = 8 := by simp [wideI] at hw; omega
  have e : iV 5 s = wrap64 (V s 8) := by unfold iV; rw [h, nI_8]; simp
  rw [if_neg (by decide), if_neg (by decide), if_pos (.inr rfl), e, iV_at8, back_8, str_8 s h]
theorem j1_15 (s : ByteArray) (t0 t1 i : Int) (t : ByteArray) (hi : -9223372036854775808 ≤ i ∧ i ≤ 9223372036854775807) : marquetryref22_Read.j1 15 s t0 t1 t0 i t = if ofB t0 t1 ⟨t0, i, t⟩ = true then (if (layV t0 i t).toList = s.toList then some (t0, i, t, 0) else some (0, 0, ⟨#[]⟩, 320)) else some (0, 0, ⟨#[]⟩, 320) := by
 have e := j1_v s t0 t1 i t hi
 obtain ⟨r, hr⟩ : ∃ r, (if ofB t0 t1 ⟨t0, i, t⟩ = true then (if (layV t0 i t).toList = s.toList then some (t0, i, t, (0 : Int)) else some (0, 0, ⟨#[]⟩, 320)) else some (0, 0, ⟨#[]⟩, 320)) = some r := by
  repeat' split
  all_goals exact ⟨_, rfl⟩
 rw [hr] at e ⊢
 exact up (f := fun n => marquetryref22_Read.j1 n s t0 t1 t0 i t) (fun n => (marquetryref22_Read.mono_l n).1 _ _ _ _ _ _) e 1
theorem read_same (t0 t1 : Int) (s : ByteArray) (hs : s.size ≤ 10000) : marquetryref22_Read.f 16 t0 t1 s = ranges_Read.f t0 t1 s := by
 have ec : marquetryref09_Check.f 16 t0 t1 = some (decide (datum_Check.v t0 t1 = 0)) := up (f := fun n => marquetryref09_Check.f n t0 t1) (fun n => marquetryref09_Check.mono _ _ n) (ref_check t0 t1) 15
 unfold marquetryref22_Read.f ranges_Read.f
 rw [if_pos (show s.size ≤ 140737488351232 by omega), ec]
 simp only [Option.bind_some]
 by_cases hc : datum_Check.v t0 t1 = 0
 ·rw [if_pos (decide_eq_true hc), if_neg (not_not_intro hc)]
  have hk := kind_of hc
  by_cases htxt : t0 = 6 ∨ t0 = 7
  ·rw [read_text t0 t1 s hc htxt, if_pos (show wideI t0 = 0 by rcases htxt with rfl | rfl <;> rfl)]
  ·have hk5 : t0 = 0 ∨ t0 = 1 ∨ t0 = 2 ∨ t0 = 4 ∨ t0 = 5 := by omega
   have hw0 : wideI t0 = 1 ∨ wideI t0 = 4 ∨ wideI t0 = 8 := by rcases hk5 with rfl | rfl | rfl | rfl | rfl <;> decide
   rw [num_j0 t0 t1 s hk5, if_neg (show ¬ wideI t0 = 0 by omega)]
   by_cases hw : wideI t0 = (s.size : Int)
   ·rw [if_neg (not_not_intro hw), if_neg (show ¬ (s.size : Int) > 8 by omega), j1_15 _ _ _ _ _ (iV_range t0 s (by omega))]
    by_cases hob : ofB t0 t1 ⟨t0, iV t0 s, ⟨#[]⟩⟩ = true
    ·have hb := lay_back t0 s hk5 hw (ofB_fine _ _ _ _ hob)
     rw [if_pos hob, hb, if_pos rfl, ← iV_read t0 s hk5 hw, if_pos hob]
    ·rw [if_neg hob, ← iV_read t0 s hk5 hw, if_neg hob]
   ·rw [if_pos hw]
    by_cases h8 : (s.size : Int) > 8
    ·rw [if_pos h8]
    ·rw [if_neg h8, j1_15 _ _ _ _ _ (iV_range t0 s (by omega))]
     by_cases hob : ofB t0 t1 ⟨t0, iV t0 s, ⟨#[]⟩⟩ = true
     ·rw [if_pos hob, if_neg]
      intro he
      have hf := ofB_fine _ _ _ _ hob
      have hsz : ((layV t0 (iV t0 s) ⟨#[]⟩).size : Int) = wideI t0 := by
       unfold layV
       rw [if_pos hf]
       rcases hk5 with rfl | rfl | rfl | rfl | rfl <;> simp [str_size, leB_len, wideI]
      apply hw
      rw [← hsz]
      have h2 := congrArg List.length he
      rw [Lib.toList_data, Lib.toList_data, data_length, data_length] at h2
      have h3 := h2
      rw [h3]
     ·rw [if_neg hob]
 ·rw [if_neg (by simp [hc]), if_pos hc]
end Go.Proofs.Ytncehlbhjoejhaa.RngAid
end
