/- Texts of the claim, packed: FloatPlain. -/
import Derived.Laws.FloatBits
import GoSem.Core.Float
section
/-! What the comparisons of float64 need, in plain Lean: order is an order; a float32 that is a number is a float64 that is a number. -/
namespace Go.Proofs.YtncehlbhjoejhaaF
open Ieee
def isN (d : Datum) : Prop := ∃ s t, d = .nan s t
theorem signed_shift (s : Bool) (m a b : Nat) : signed s m (a + b) = signed s m a * 2 ^ b := by
  have h : ((m <<< (a + b) : Nat) : Int) = ((m <<< a : Nat) : Int) * 2 ^ b := by
    rw [Nat.shiftLeft_eq, Nat.shiftLeft_eq, Nat.pow_add, ← Nat.mul_assoc]
    push_cast
    rfl
  unfold signed
  cases s
  · simpa using h
  · simp only [if_true]
    rw [h, Int.neg_mul]
theorem cmp_mul (x y : Int) (b : Nat) : compare (x * 2 ^ b) (y * 2 ^ b) = compare x y := by
  have hp : (0 : Int) < 2 ^ b := Int.pow_pos (by omega)
  rcases Int.lt_trichotomy x y with h | h | h
  · have h2 := Int.mul_lt_mul_of_pos_right h hp
    rw [Int.compare_eq_lt.2 h, Int.compare_eq_lt.2 h2]
  · rw [h, Int.compare_eq_eq.2 rfl, Int.compare_eq_eq.2 rfl]
  · have h2 := Int.mul_lt_mul_of_pos_right h hp
    rw [Int.compare_eq_gt.2 h, Int.compare_eq_gt.2 h2]
def base : Datum → Int
  | .number _ _ i => i
  | _ => 0
def key (b : Int) : Datum → Int × Int
  | .number s m i => (0, signed s m (i - b).toNat)
  | .infinity s => (if s then -1 else 1, 0)
  | .nan _ _ => (0, 0)
def cmpK (p q : Int × Int) : Ordering := if p.1 < q.1 then .lt else if q.1 < p.1 then .gt else compare p.2 q.2
theorem order_key (d d' : Datum) (b : Int) (h : b ≤ base d) (h' : b ≤ base d') (hn : ¬ isN d) (hn' : ¬ isN d') : d.order d' = some (cmpK (key b d) (key b d')) := by
  cases d with
  | nan s t => exact absurd ⟨s, t, rfl⟩ hn
  | infinity s =>
    cases d' with
    | nan s t => exact absurd ⟨s, t, rfl⟩ hn'
    | infinity t => cases s <;> cases t <;> rfl
    | number t n j => cases s <;> rfl
  | number s m i =>
    cases d' with
    | nan s t => exact absurd ⟨s, t, rfl⟩ hn'
    | infinity t => cases t <;> rfl
    | number t n j =>
      simp only [base] at h h'
      have e1 : (i - b).toNat = (i - min i j).toNat + (min i j - b).toNat := by omega
      have e2 : (j - b).toNat = (j - min i j).toNat + (min i j - b).toNat := by omega
      simp only [Datum.order, key, cmpK]
      rw [e1, e2, signed_shift, signed_shift, cmp_mul]
      simp
theorem cmpK_refl (p : Int × Int) : cmpK p p = .eq := by
  unfold cmpK
  rw [if_neg (Int.lt_irrefl _), if_neg (Int.lt_irrefl _)]
  exact Int.compare_eq_eq.2 rfl
theorem order_nan (d d' : Datum) (h : isN d ∨ isN d') : d.order d' = none := by
  rcases h with ⟨s, t, rfl⟩ | ⟨s, t, rfl⟩
  · cases d' <;> rfl
  · cases d <;> rfl
theorem order_refl (d : Datum) (h : ¬ isN d) : d.order d = some .eq := by
  rw [order_key d d (base d) (Int.le_refl _) (Int.le_refl _) h h, cmpK_refl]
theorem order_some (d d' : Datum) (h : ¬ isN d) (h' : ¬ isN d') : ∃ o, d.order d' = some o := ⟨_, order_key d d' (min (base d) (base d')) (Int.min_le_left _ _) (Int.min_le_right _ _) h h'⟩
/-! float32 to float64 -/
theorem cut_zero (neg : Bool) (n : Nat) : Toward.even.cut neg n 0 = n := by
  have h1 : (1 : Nat) <<< min 0 (n.log2 + 2) = 1 := by simp
  unfold Toward.cut
  simp only [h1, Nat.div_one, Nat.mod_one]
  simp
theorem word_num (s : Bool) (r : Nat) (hr : r < 9218868437227405312) : ∃ s' m' e', double.read (double.word s r) = .number s' m' e' := by
  have e1 : double.signWeight = 9223372036854775808 := by decide
  have e2 : double.binade = 4503599627370496 := by decide
  have e3 : double.infRung = 9218868437227405312 := by decide
  have hmod : double.word s r % 9223372036854775808 = r := by
    unfold Format.word
    rw [e1]
    split <;> omega
  generalize double.word s r = x at *
  unfold Format.read
  rw [e1, e2, e3, hmod]
  by_cases h1 : r < 4503599627370496
  · simp only [if_pos h1]; exact ⟨_, _, _, rfl⟩
  · simp only [if_neg h1, if_pos hr]; exact ⟨_, _, _, rfl⟩
theorem nearest_word (s : Bool) (m : Nat) (e : Int) (h0 : m ≠ 0) (hl : m.log2 ≤ 23) (he : -149 ≤ e) : double.nearest s m e = double.word s (min ((e + (m.log2 : Int) - 52 - -1074).toNat * 4503599627370496 + m <<< (52 - m.log2)) 9218868437227405312) := by
  have hlp : double.leastPlace = -1074 := by decide
  have hfb : ((double.fractionBits : Nat) : Int) = 52 := rfl
  have hb : double.binade = 4503599627370496 := by decide
  have hi : double.infRung = 9218868437227405312 := by decide
  have hlast : max (e + (m.log2 : Int) - (double.fractionBits : Int)) (-1074) = e + m.log2 - 52 := by rw [hfb]; omega
  have hd : (e + (m.log2 : Int) - 52 - e).toNat = 0 := by omega
  have hu : (e - (e + (m.log2 : Int) - 52)).toNat = 52 - m.log2 := by omega
  unfold Format.nearest
  rw [if_neg h0]
  simp only [hlast, hlp, hb, hi, hd, hu, cut_zero]
theorem shift_lt (m : Nat) (hl : m.log2 ≤ 23) : m <<< (52 - m.log2) < 9007199254740992 := by
  rw [Nat.shiftLeft_eq]
  have h1 : m < 2 ^ (m.log2 + 1) := Nat.lt_log2_self
  have h2 : 2 ^ (m.log2 + 1) * 2 ^ (52 - m.log2) = 2 ^ 53 := by
    rw [← Nat.pow_add, show m.log2 + 1 + (52 - m.log2) = 53 by omega]
  have h3 : m * 2 ^ (52 - m.log2) < 2 ^ (m.log2 + 1) * 2 ^ (52 - m.log2) := Nat.mul_lt_mul_of_pos_right h1 (Nat.two_pow_pos _)
  rw [h2] at h3
  exact h3
theorem widen_num (s : Bool) (m : Nat) (e : Int) (hm : m < 16777216) (he : -149 ≤ e) (he' : e ≤ 104) : ∃ s' m' e', double.read (double.write (.number s m e)) = .number s' m' e' := by
  have hw : double.write (.number s m e) = double.nearest s m e := rfl
  rw [hw]
  by_cases h0 : m = 0
  · have : double.nearest s m e = double.word s 0 := by unfold Format.nearest; rw [if_pos h0]
    rw [this]
    exact word_num s 0 (by omega)
  have hl : m.log2 ≤ 23 := by
    have := (Nat.log2_lt h0 (k := 24)).2 hm
    omega
  rw [nearest_word s m e h0 hl he]
  have hk := shift_lt m hl
  generalize m <<< (52 - m.log2) = q at *
  have hr : (e + (m.log2 : Int) - 52 - -1074).toNat ≤ 1149 := by omega
  generalize (e + (m.log2 : Int) - 52 - -1074).toNat = r at *
  exact word_num s _ (by omega)
theorem read32 (n : Nat) (s : Bool) (m : Nat) (e : Int) (h : single.read n = .number s m e) : m < 16777216 ∧ -149 ≤ e ∧ e ≤ 104 := by
  have e1 : single.signWeight = 2147483648 := by decide
  have e2 : single.binade = 8388608 := by decide
  have e3 : single.infRung = 2139095040 := by decide
  have e4 : single.leastPlace = -149 := by decide
  unfold Format.read at h
  rw [e1, e2, e3, e4] at h
  dsimp only at h
  split at h
  · cases h; omega
  · split at h
    · rename_i h1 h2
      cases h
      have h3 : n % 2147483648 / 8388608 ≤ 254 := by omega
      refine ⟨by omega, by omega, by omega⟩
    · split at h <;> cases h
theorem widen_inf (s : Bool) : double.read (double.write (.infinity s)) = .infinity s := by cases s <;> decide
end Go.Proofs.YtncehlbhjoejhaaF
end
