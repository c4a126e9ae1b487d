/- Texts of the claim, packed: FloatPlain, FloatSame. -/
import Derived.Laws.FloatBits
import GoSem.Core.Float
section
/-! What the comparisons of float64 need, in plain Lean: order is an order; a float32 that is a number is a float64 that is a number. -/
namespace Go.Proofs.YtncehlbhjoejhaaF
open Ieee
def isN (d : Datum) : Prop := ∃ s t, d = .nan s t
theorem signed_shift (s : Bool) (m a b : Nat) : signed s m (a + b) = signed s m a * 2 ^ b := by
  have h : ((m <<< (a + b) : Nat) : Int) = ((m <<< a : Nat) : Int) * 2 ^ b := by
    rw [Nat.shiftLeft_eq, Nat.shiftLeft_eq, Nat.pow_add, ← Nat.mul_assoc]
    push_cast
    rfl
  unfold signed
  cases s
  · simpa using h
  · simp only [if_true]
    rw [h, Int.neg_mul]
theorem cmp_mul (x y : Int) (b : Nat) : compare (x * 2 ^ b) (y * 2 ^ b) = compare x y := by
  have hp : (0 : Int) < 2 ^ b := Int.pow_pos (by omega)
  rcases Int.lt_trichotomy x y with h | h | h
  · have h2 := Int.mul_lt_mul_of_pos_right h hp
    rw [Int.compare_eq_lt.2 h, Int.compare_eq_lt.2 h2]
  · rw [h, Int.compare_eq_eq.2 rfl, Int.compare_eq_eq.2 rfl]
  · have h2 := Int.mul_lt_mul_of_pos_right h hp
    rw [Int.compare_eq_gt.2 h, Int.compare_eq_gt.2 h2]
def base : Datum → Int
  | .number _ _ i => i
  | _ => 0
def key (b : Int) : Datum → Int × Int
  | .number s m i => (0, signed s m (i - b).toNat)
  | .infinity s => (if s then -1 else 1, 0)
  | .nan _ _ => (0, 0)
def cmpK (p q : Int × Int) : Ordering := if p.1 < q.1 then .lt else if q.1 < p.1 then .gt else compare p.2 q.2
theorem order_key (d d' : Datum) (b : Int) (h : b ≤ base d) (h' : b ≤ base d') (hn : ¬ isN d) (hn' : ¬ isN d') : d.order d' = some (cmpK (key b d) (key b d')) := by
  cases d with
  | nan s t => exact absurd ⟨s, t, rfl⟩ hn
  | infinity s =>
    cases d' with
    | nan s t => exact absurd ⟨s, t, rfl⟩ hn'
    | infinity t => cases s <;> cases t <;> rfl
    | number t n j => cases s <;> rfl
  | number s m i =>
    cases d' with
    | nan s t => exact absurd ⟨s, t, rfl⟩ hn'
    | infinity t => cases t <;> rfl
    | number t n j =>
      simp only [base] at h h'
      have e1 : (i - b).toNat = (i - min i j).toNat + (min i j - b).toNat := by omega
      have e2 : (j - b).toNat = (j - min i j).toNat + (min i j - b).toNat := by omega
      simp only [Datum.order, key, cmpK]
      rw [e1, e2, signed_shift, signed_shift, cmp_mul]
      simp
theorem cmpK_refl (p : Int × Int) : cmpK p p = .eq := by
  unfold cmpK
  rw [if_neg (Int.lt_irrefl _), if_neg (Int.lt_irrefl _)]
  exact Int.compare_eq_eq.2 rfl
theorem cmpK_swap (p q : Int × Int) : cmpK q p = (cmpK p q).swap := by
  unfold cmpK
  by_cases h : p.1 < q.1
  · rw [if_pos h, if_neg (by omega), if_pos h]; rfl
  · rw [if_neg h]
    by_cases h2 : q.1 < p.1
    · rw [if_pos h2, if_neg h, if_pos h2]; rfl
    · rw [if_neg h2, if_neg h2, if_neg h, Int.compare_swap]
theorem cmpK_le (p q : Int × Int) : cmpK p q ≠ .gt ↔ p.1 < q.1 ∨ (p.1 = q.1 ∧ p.2 ≤ q.2) := by
  unfold cmpK
  by_cases h : p.1 < q.1
  · simp [h]
  · rw [if_neg h]
    by_cases h2 : q.1 < p.1
    · simp only [if_pos h2]
      constructor
      · intro e; exact absurd rfl e
      · intro e; omega
    · rw [if_neg h2, Ne, Int.compare_eq_gt]
      omega
theorem cmpK_lt (p q : Int × Int) : cmpK p q = .lt ↔ p.1 < q.1 ∨ (p.1 = q.1 ∧ p.2 < q.2) := by
  unfold cmpK
  by_cases h : p.1 < q.1
  · simp [h]
  · rw [if_neg h]
    by_cases h2 : q.1 < p.1
    · simp only [if_pos h2]
      constructor
      · intro e; cases e
      · intro e; omega
    · rw [if_neg h2, Int.compare_eq_lt]
      omega
theorem order_refl (d : Datum) (h : ¬ isN d) : d.order d = some .eq := by
  rw [order_key d d (base d) (Int.le_refl _) (Int.le_refl _) h h, cmpK_refl]
theorem order_swap (d d' : Datum) (h : ¬ isN d) (h' : ¬ isN d') : d'.order d = (d.order d').map Ordering.swap := by
  rw [order_key d d' (min (base d) (base d')) (Int.min_le_left _ _) (Int.min_le_right _ _) h h', order_key d' d (min (base d) (base d')) (Int.min_le_right _ _) (Int.min_le_left _ _) h' h, cmpK_swap]
  rfl
theorem order_some (d d' : Datum) (h : ¬ isN d) (h' : ¬ isN d') : ∃ o, d.order d' = some o := ⟨_, order_key d d' (min (base d) (base d')) (Int.min_le_left _ _) (Int.min_le_right _ _) h h'⟩
theorem order_le_trans (x y z : Datum) (hx : ¬ isN x) (hy : ¬ isN y) (hz : ¬ isN z) (h1 : x.order y ≠ some .gt) (h2 : y.order z ≠ some .gt) : x.order z ≠ some .gt := by
  have b1 : min (base x) (min (base y) (base z)) ≤ base x := by omega
  have b2 : min (base x) (min (base y) (base z)) ≤ base y := by omega
  have b3 : min (base x) (min (base y) (base z)) ≤ base z := by omega
  rw [order_key _ _ _ b1 b2 hx hy, Ne, Option.some.injEq, ← Ne, cmpK_le] at h1
  rw [order_key _ _ _ b2 b3 hy hz, Ne, Option.some.injEq, ← Ne, cmpK_le] at h2
  rw [order_key _ _ _ b1 b3 hx hz, Ne, Option.some.injEq, ← Ne, cmpK_le]
  omega
theorem order_lt_trans (x y z : Datum) (hx : ¬ isN x) (hy : ¬ isN y) (hz : ¬ isN z) (h1 : x.order y = some .lt) (h2 : y.order z ≠ some .gt) : x.order z = some .lt := by
  have b1 : min (base x) (min (base y) (base z)) ≤ base x := by omega
  have b2 : min (base x) (min (base y) (base z)) ≤ base y := by omega
  have b3 : min (base x) (min (base y) (base z)) ≤ base z := by omega
  rw [order_key _ _ _ b1 b2 hx hy, Option.some.injEq, cmpK_lt] at h1
  rw [order_key _ _ _ b2 b3 hy hz, Ne, Option.some.injEq, ← Ne, cmpK_le] at h2
  rw [order_key _ _ _ b1 b3 hx hz, Option.some.injEq, cmpK_lt]
  omega
/-! float32 to float64 -/
theorem cut_zero (neg : Bool) (n : Nat) : Toward.even.cut neg n 0 = n := by
  have h1 : (1 : Nat) <<< min 0 (n.log2 + 2) = 1 := by simp
  unfold Toward.cut
  simp only [h1, Nat.div_one, Nat.mod_one]
  simp
theorem word_num (s : Bool) (r : Nat) (hr : r < 9218868437227405312) : ∃ s' m' e', double.read (double.word s r) = .number s' m' e' := by
  have e1 : double.signWeight = 9223372036854775808 := by decide
  have e2 : double.binade = 4503599627370496 := by decide
  have e3 : double.infRung = 9218868437227405312 := by decide
  have hmod : double.word s r % 9223372036854775808 = r := by
    unfold Format.word
    rw [e1]
    split <;> omega
  generalize double.word s r = x at *
  unfold Format.read
  rw [e1, e2, e3, hmod]
  by_cases h1 : r < 4503599627370496
  · simp only [if_pos h1]; exact ⟨_, _, _, rfl⟩
  · simp only [if_neg h1, if_pos hr]; exact ⟨_, _, _, rfl⟩
theorem nearest_word (s : Bool) (m : Nat) (e : Int) (h0 : m ≠ 0) (hl : m.log2 ≤ 23) (he : -149 ≤ e) : double.nearest s m e = double.word s (min ((e + (m.log2 : Int) - 52 - -1074).toNat * 4503599627370496 + m <<< (52 - m.log2)) 9218868437227405312) := by
  have hlp : double.leastPlace = -1074 := by decide
  have hfb : ((double.fractionBits : Nat) : Int) = 52 := rfl
  have hb : double.binade = 4503599627370496 := by decide
  have hi : double.infRung = 9218868437227405312 := by decide
  have hlast : max (e + (m.log2 : Int) - (double.fractionBits : Int)) (-1074) = e + m.log2 - 52 := by rw [hfb]; omega
  have hd : (e + (m.log2 : Int) - 52 - e).toNat = 0 := by omega
  have hu : (e - (e + (m.log2 : Int) - 52)).toNat = 52 - m.log2 := by omega
  unfold Format.nearest
  rw [if_neg h0]
  simp only [hlast, hlp, hb, hi, hd, hu, cut_zero]
theorem shift_lt (m : Nat) (hl : m.log2 ≤ 23) : m <<< (52 - m.log2) < 9007199254740992 := by
  rw [Nat.shiftLeft_eq]
  have h1 : m < 2 ^ (m.log2 + 1) := Nat.lt_log2_self
  have h2 : 2 ^ (m.log2 + 1) * 2 ^ (52 - m.log2) = 2 ^ 53 := by
    rw [← Nat.pow_add, show m.log2 + 1 + (52 - m.log2) = 53 by omega]
  have h3 : m * 2 ^ (52 - m.log2) < 2 ^ (m.log2 + 1) * 2 ^ (52 - m.log2) := Nat.mul_lt_mul_of_pos_right h1 (Nat.two_pow_pos _)
  rw [h2] at h3
  exact h3
theorem widen_num (s : Bool) (m : Nat) (e : Int) (hm : m < 16777216) (he : -149 ≤ e) (he' : e ≤ 104) : ∃ s' m' e', double.read (double.write (.number s m e)) = .number s' m' e' := by
  have hw : double.write (.number s m e) = double.nearest s m e := rfl
  rw [hw]
  by_cases h0 : m = 0
  · have : double.nearest s m e = double.word s 0 := by unfold Format.nearest; rw [if_pos h0]
    rw [this]
    exact word_num s 0 (by omega)
  have hl : m.log2 ≤ 23 := by
    have := (Nat.log2_lt h0 (k := 24)).2 hm
    omega
  rw [nearest_word s m e h0 hl he]
  have hk := shift_lt m hl
  generalize m <<< (52 - m.log2) = q at *
  have hr : (e + (m.log2 : Int) - 52 - -1074).toNat ≤ 1149 := by omega
  generalize (e + (m.log2 : Int) - 52 - -1074).toNat = r at *
  exact word_num s _ (by omega)
theorem read32 (n : Nat) (s : Bool) (m : Nat) (e : Int) (h : single.read n = .number s m e) : m < 16777216 ∧ -149 ≤ e ∧ e ≤ 104 := by
  have e1 : single.signWeight = 2147483648 := by decide
  have e2 : single.binade = 8388608 := by decide
  have e3 : single.infRung = 2139095040 := by decide
  have e4 : single.leastPlace = -149 := by decide
  unfold Format.read at h
  rw [e1, e2, e3, e4] at h
  dsimp only at h
  split at h
  · cases h; omega
  · split at h
    · rename_i h1 h2
      cases h
      have h3 : n % 2147483648 / 8388608 ≤ 254 := by omega
      refine ⟨by omega, by omega, by omega⟩
    · split at h <;> cases h
theorem widen_inf (s : Bool) : double.read (double.write (.infinity s)) = .infinity s := by cases s <;> decide
end Go.Proofs.YtncehlbhjoejhaaF
end
section
/-! Two words that stand for numbers which compare as equal are one word, or two zeros: of float64, and of float32 made float64. -/
namespace Go.Proofs.YtncehlbhjoejhaaF
open Ieee
theorem norm_lt {B m1 m2 p1 p2 : Nat} (c1 : B ≤ m1 ∧ m1 < 2 * B) (c2 : B ≤ m2 ∧ m2 < 2 * B) (hp : p1 < p2) : m1 * 2 ^ p1 ≠ m2 * 2 ^ p2 := by
  intro h
  have pos1 := Nat.two_pow_pos p1
  obtain ⟨d, rfl⟩ : ∃ d, p2 = p1 + (d + 1) := ⟨p2 - p1 - 1, by omega⟩
  have e : m1 * 2 ^ p1 = (m2 * 2 ^ (d + 1)) * 2 ^ p1 := by rw [h, Nat.pow_add, Nat.mul_comm (2 ^ p1), Nat.mul_assoc]
  have e2 := Nat.eq_of_mul_eq_mul_right pos1 e
  have h2 : 2 ≤ 2 ^ (d + 1) := by rw [Nat.pow_succ]; have := Nat.two_pow_pos d; omega
  have h3 : m2 * 2 ≤ m2 * 2 ^ (d + 1) := Nat.mul_le_mul_left _ h2
  omega
theorem norm_inj {B m1 m2 p1 p2 : Nat} (c1 : (m1 < B ∧ p1 = 0) ∨ (B ≤ m1 ∧ m1 < 2 * B)) (c2 : (m2 < B ∧ p2 = 0) ∨ (B ≤ m2 ∧ m2 < 2 * B)) (h : m1 * 2 ^ p1 = m2 * 2 ^ p2) : m1 = m2 ∧ p1 = p2 := by
  have pos1 := Nat.two_pow_pos p1
  have pos2 := Nat.two_pow_pos p2
  rcases c1 with ⟨a1, rfl⟩ | c1
  · rcases c2 with ⟨a2, rfl⟩ | ⟨a2, b2⟩
    · exact ⟨by simpa using h, rfl⟩
    · exfalso
      have : B * 1 ≤ m2 * 2 ^ p2 := Nat.mul_le_mul a2 pos2
      simp at h
      omega
  · rcases c2 with ⟨a2, rfl⟩ | c2
    · exfalso
      have : B * 1 ≤ m1 * 2 ^ p1 := Nat.mul_le_mul c1.1 pos1
      simp at h
      omega
    · rcases Nat.lt_trichotomy p1 p2 with hp | hp | hp
      · exact absurd h (norm_lt c1 c2 hp)
      · subst hp
        exact ⟨Nat.eq_of_mul_eq_mul_right pos1 h, rfl⟩
      · exact absurd h.symm (norm_lt c2 c1 hp)
theorem signed_same {s1 s2 : Bool} {m1 m2 p1 p2 : Nat} (h : signed s1 m1 p1 = signed s2 m2 p2) : m1 * 2 ^ p1 = m2 * 2 ^ p2 ∧ (s1 = s2 ∨ (m1 = 0 ∧ m2 = 0)) := by
  unfold signed at h
  rw [Nat.shiftLeft_eq, Nat.shiftLeft_eq] at h
  have z1 : m1 * 2 ^ p1 = 0 → m1 = 0 := fun hz => (Nat.mul_eq_zero.mp hz).resolve_right (Nat.ne_of_gt (Nat.two_pow_pos p1))
  have z2 : m2 * 2 ^ p2 = 0 → m2 = 0 := fun hz => (Nat.mul_eq_zero.mp hz).resolve_right (Nat.ne_of_gt (Nat.two_pow_pos p2))
  generalize m1 * 2 ^ p1 = A at *
  generalize m2 * 2 ^ p2 = C at *
  cases s1 <;> cases s2
  · simp at h
    exact ⟨by omega, .inl rfl⟩
  · simp at h
    exact ⟨by omega, .inr ⟨z1 (by omega), z2 (by omega)⟩⟩
  · simp at h
    exact ⟨by omega, .inr ⟨z1 (by omega), z2 (by omega)⟩⟩
  · simp at h
    exact ⟨by omega, .inl rfl⟩
theorem order_num_eq {s1 s2 : Bool} {m1 m2 : Nat} {e1 e2 b : Int} (h1 : b ≤ e1) (h2 : b ≤ e2) (h : (Datum.number s1 m1 e1).order (.number s2 m2 e2) = some .eq) : m1 * 2 ^ (e1 - b).toNat = m2 * 2 ^ (e2 - b).toNat ∧ (s1 = s2 ∨ (m1 = 0 ∧ m2 = 0)) := by
  rw [order_key (.number s1 m1 e1) (.number s2 m2 e2) b h1 h2 (fun ⟨_, _, h⟩ => by cases h) (fun ⟨_, _, h⟩ => by cases h), Option.some.injEq] at h
  apply signed_same
  unfold cmpK key at h
  simp only at h
  rw [if_neg (by decide), if_neg (by decide)] at h
  exact Int.compare_eq_eq.1 h
theorem read64 (n : Nat) (s : Bool) (m : Nat) (e : Int) (hn : n < 18446744073709551616) (h : double.read n = .number s m e) :
    ((m < 4503599627370496 ∧ e = -1074) ∨ (4503599627370496 ≤ m ∧ m < 9007199254740992 ∧ -1074 ≤ e)) ∧ (n = (if s = true then 9223372036854775808 else 0) + (if m < 4503599627370496 then m else (e + 1075).toNat * 4503599627370496 + (m - 4503599627370496))) := by
  have e1 : double.signWeight = 9223372036854775808 := by decide
  have e2 : double.binade = 4503599627370496 := by decide
  have e3 : double.infRung = 9218868437227405312 := by decide
  have e4 : double.leastPlace = -1074 := by decide
  unfold Format.read at h
  rw [e1, e2, e3, e4] at h
  dsimp only at h
  have hs : ∀ c : Bool, (n / 9223372036854775808 % 2 == 1) = c → (if c = true then 9223372036854775808 else 0) = n / 9223372036854775808 * 9223372036854775808 := by
    intro c hc
    cases c
    · have : ¬ n / 9223372036854775808 % 2 = 1 := by simpa using hc
      simp
      omega
    · have : n / 9223372036854775808 % 2 = 1 := by simpa using hc
      simp
      omega
  split at h
  · rename_i h1
    injection h with ha hb hc
    subst hb hc
    rw [hs s ha, if_pos h1]
    exact ⟨.inl ⟨h1, rfl⟩, by omega⟩
  · rename_i h1
    split at h
    · rename_i h2
      injection h with ha hb hc
      subst hb hc
      rw [hs s ha, if_neg (by omega)]
      exact ⟨.inr ⟨by omega, by omega, by omega⟩, by omega⟩
    · split at h <;> cases h
theorem inf64 (n : Nat) (s : Bool) (hn : n < 18446744073709551616) (h : double.read n = .infinity s) : n = (if s = true then 9223372036854775808 else 0) + 9218868437227405312 := by
  have e1 : double.signWeight = 9223372036854775808 := by decide
  have e2 : double.binade = 4503599627370496 := by decide
  have e3 : double.infRung = 9218868437227405312 := by decide
  have e4 : double.leastPlace = -1074 := by decide
  unfold Format.read at h
  rw [e1, e2, e3, e4] at h
  dsimp only at h
  split at h
  · cases h
  · split at h
    · cases h
    · split at h
      · rename_i h3
        injection h with ha
        cases s
        · have : ¬ n / 9223372036854775808 % 2 = 1 := by simpa using ha
          simp
          omega
        · have : n / 9223372036854775808 % 2 = 1 := by simpa using ha
          simp
          omega
      · cases h
theorem same64 (x y : Nat) (hx : x < 18446744073709551616) (hy : y < 18446744073709551616) (h : (double.read x).order (double.read y) = some .eq) : x = y ∨ (x % 9223372036854775808 = 0 ∧ y % 9223372036854775808 = 0) := by
  cases hdx : double.read x with
  | nan s t => rw [hdx] at h; cases h
  | infinity s =>
    cases hdy : double.read y with
    | nan s t => rw [hdx, hdy] at h; cases h
    | number s2 m2 i2 => rw [hdx, hdy] at h; cases s <;> cases h
    | infinity t =>
      rw [hdx, hdy] at h
      have e1 := inf64 x s hx hdx
      have e2 := inf64 y t hy hdy
      left
      cases s <;> cases t
      · rw [e1, e2]
      · cases h
      · cases h
      · rw [e1, e2]
  | number s1 m1 i1 =>
    cases hdy : double.read y with
    | nan s t => rw [hdx, hdy] at h; cases h
    | infinity t => rw [hdx, hdy] at h; cases t <;> cases h
    | number s2 m2 i2 =>
      rw [hdx, hdy] at h
      obtain ⟨c1, e1⟩ := read64 x s1 m1 i1 hx hdx
      obtain ⟨c2, e2⟩ := read64 y s2 m2 i2 hy hdy
      obtain ⟨hm, hs⟩ := order_num_eq (b := -1074) (by omega) (by omega) h
      obtain ⟨rfl, hp⟩ := norm_inj (B := 4503599627370496) (by omega) (by omega) hm
      have hi : i1 = i2 := by omega
      subst hi
      rcases hs with rfl | ⟨hz, _⟩
      · left; rw [e1, e2]
      · right
        subst hz
        have a1 : (if (0 : Nat) < 4503599627370496 then 0 else (i1 + 1075).toNat * 4503599627370496 + (0 - 4503599627370496)) = 0 := rfl
        rw [a1] at e1 e2
        refine ⟨?_, ?_⟩
        · rw [e1]; cases s1 <;> rfl
        · rw [e2]; cases s2 <;> rfl
/-! float32 -/
theorem read32x (n : Nat) (s : Bool) (m : Nat) (e : Int) (hn : n < 4294967296) (h : single.read n = .number s m e) :
    ((m < 8388608 ∧ e = -149) ∨ (8388608 ≤ m ∧ m < 16777216 ∧ -149 ≤ e ∧ e ≤ 104)) ∧ (n = (if s = true then 2147483648 else 0) + (if m < 8388608 then m else (e + 150).toNat * 8388608 + (m - 8388608))) := by
  have e1 : single.signWeight = 2147483648 := by decide
  have e2 : single.binade = 8388608 := by decide
  have e3 : single.infRung = 2139095040 := by decide
  have e4 : single.leastPlace = -149 := by decide
  unfold Format.read at h
  rw [e1, e2, e3, e4] at h
  dsimp only at h
  have hs : ∀ c : Bool, (n / 2147483648 % 2 == 1) = c → (if c = true then 2147483648 else 0) = n / 2147483648 * 2147483648 := by
    intro c hc
    cases c
    · have : ¬ n / 2147483648 % 2 = 1 := by simpa using hc
      simp
      omega
    · have : n / 2147483648 % 2 = 1 := by simpa using hc
      simp
      omega
  split at h
  · rename_i h1
    injection h with ha hb hc
    subst hb hc
    rw [hs s ha, if_pos h1]
    exact ⟨.inl ⟨h1, rfl⟩, by omega⟩
  · rename_i h1
    split at h
    · rename_i h2
      injection h with ha hb hc
      subst hb hc
      rw [hs s ha, if_neg (by omega)]
      have h3 : n % 2147483648 / 8388608 ≤ 254 := by omega
      exact ⟨.inr ⟨by omega, by omega, by omega, by omega⟩, by omega⟩
    · split at h <;> cases h
theorem inf32 (n : Nat) (s : Bool) (hn : n < 4294967296) (h : single.read n = .infinity s) : n = (if s = true then 2147483648 else 0) + 2139095040 := by
  have e1 : single.signWeight = 2147483648 := by decide
  have e2 : single.binade = 8388608 := by decide
  have e3 : single.infRung = 2139095040 := by decide
  have e4 : single.leastPlace = -149 := by decide
  unfold Format.read at h
  rw [e1, e2, e3, e4] at h
  dsimp only at h
  split at h
  · cases h
  · split at h
    · cases h
    · split at h
      · rename_i h3
        injection h with ha
        cases s
        · have : ¬ n / 2147483648 % 2 = 1 := by simpa using ha
          simp
          omega
        · have : n / 2147483648 % 2 = 1 := by simpa using ha
          simp
          omega
      · cases h
theorem word_read (s : Bool) (r : Nat) (hr : r < 9218868437227405312) (hb : 4503599627370496 ≤ r) : double.read (double.word s r) = .number s (4503599627370496 + r % 4503599627370496) (-1074 + ((r / 4503599627370496 - 1 : Nat) : Int)) := by
  have e1 : double.signWeight = 9223372036854775808 := by decide
  have e2 : double.binade = 4503599627370496 := by decide
  have e3 : double.infRung = 9218868437227405312 := by decide
  have e4 : double.leastPlace = -1074 := by decide
  have hmod : double.word s r % 9223372036854775808 = r := by
    unfold Format.word
    rw [e1]
    split <;> omega
  have hneg : (double.word s r / 9223372036854775808 % 2 == 1) = s := by
    unfold Format.word
    rw [e1]
    cases s
    · simp
      omega
    · simp
      omega
  unfold Format.read
  rw [e1, e2, e3, e4]
  dsimp only
  rw [hmod, hneg, if_neg (by omega), if_pos hr]
/-- What a float32 number is as a float64: the same number. -/
theorem widen_val (s : Bool) (m : Nat) (e : Int) (hm : m < 16777216) (he : -149 ≤ e) (he' : e ≤ 104) : ∃ M E, double.read (double.write (.number s m e)) = .number s M E ∧ -1074 ≤ E ∧ M * 2 ^ (E - -1074).toNat = m * 2 ^ (e - -1074).toNat := by
  have hw : double.write (.number s m e) = double.nearest s m e := rfl
  rw [hw]
  by_cases h0 : m = 0
  · have hz : double.nearest s m e = double.word s 0 := by unfold Format.nearest; rw [if_pos h0]
    rw [hz]
    refine ⟨0, -1074, ?_, by omega, ?_⟩
    · cases s <;> decide
    · rw [h0, Nat.zero_mul, Nat.zero_mul]
  have hl : m.log2 ≤ 23 := by
    have := (Nat.log2_lt h0 (k := 24)).2 hm
    omega
  rw [nearest_word s m e h0 hl he]
  have hk := shift_lt m hl
  have hlo : 4503599627370496 ≤ m <<< (52 - m.log2) := by
    rw [Nat.shiftLeft_eq]
    have h1 : 2 ^ m.log2 ≤ m := Nat.log2_self_le h0
    have h2 : 2 ^ m.log2 * 2 ^ (52 - m.log2) = 2 ^ 52 := by rw [← Nat.pow_add, show m.log2 + (52 - m.log2) = 52 by omega]
    have h3 := Nat.mul_le_mul_right (2 ^ (52 - m.log2)) h1
    rw [h2] at h3
    exact h3
  have hv : m <<< (52 - m.log2) * 2 ^ (e + (m.log2 : Int) - 52 - -1074).toNat = m * 2 ^ (e - -1074).toNat := by
    rw [Nat.shiftLeft_eq, Nat.mul_assoc, ← Nat.pow_add]
    congr 2
    omega
  generalize m <<< (52 - m.log2) = q at *
  have hr : (e + (m.log2 : Int) - 52 - -1074).toNat ≤ 1149 := by omega
  have hE : ((e + (m.log2 : Int) - 52 - -1074).toNat : Int) = e + (m.log2 : Int) - 52 - -1074 := by omega
  generalize (e + (m.log2 : Int) - 52 - -1074).toNat = r at *
  rw [show min (r * 4503599627370496 + q) 9218868437227405312 = r * 4503599627370496 + q by omega, word_read s _ (by omega) (by omega)]
  have d1 : (r * 4503599627370496 + q) % 4503599627370496 = q - 4503599627370496 := by omega
  have d2 : (r * 4503599627370496 + q) / 4503599627370496 - 1 = r := by omega
  rw [d1, d2, show 4503599627370496 + (q - 4503599627370496) = q by omega]
  exact ⟨q, _, rfl, by omega, by rw [show (-1074 + (r : Int) - -1074).toNat = r by omega]; exact hv⟩
theorem same32 (x y : Nat) (hx : x < 4294967296) (hy : y < 4294967296) (nx : (single.read x).isNaN = false) (ny : (single.read y).isNaN = false) (h : (double.read (double.write (single.read x))).order (double.read (double.write (single.read y))) = some .eq) : x = y ∨ (x % 2147483648 = 0 ∧ y % 2147483648 = 0) := by
  cases hdx : single.read x with
  | nan s t => rw [hdx] at nx; cases nx
  | infinity s =>
    cases hdy : single.read y with
    | nan s t => rw [hdy] at ny; cases ny
    | number s2 m2 i2 =>
      obtain ⟨c2, _⟩ := read32x y s2 m2 i2 hy hdy
      obtain ⟨M, E, hv, _⟩ := widen_val s2 m2 i2 (by omega) (by omega) (by omega)
      rw [hdx, hdy, widen_inf, hv] at h
      cases s <;> cases h
    | infinity t =>
      rw [hdx, hdy, widen_inf, widen_inf] at h
      have e1 := inf32 x s hx hdx
      have e2 := inf32 y t hy hdy
      left
      cases s <;> cases t
      · rw [e1, e2]
      · cases h
      · cases h
      · rw [e1, e2]
  | number s1 m1 i1 =>
    obtain ⟨c1, e1⟩ := read32x x s1 m1 i1 hx hdx
    obtain ⟨M1, E1, v1, l1, q1⟩ := widen_val s1 m1 i1 (by omega) (by omega) (by omega)
    cases hdy : single.read y with
    | nan s t => rw [hdy] at ny; cases ny
    | infinity t =>
      rw [hdx, hdy, widen_inf, v1] at h
      cases t <;> cases h
    | number s2 m2 i2 =>
      obtain ⟨c2, e2⟩ := read32x y s2 m2 i2 hy hdy
      obtain ⟨M2, E2, v2, l2, q2⟩ := widen_val s2 m2 i2 (by omega) (by omega) (by omega)
      rw [hdx, hdy, v1, v2] at h
      obtain ⟨hm, hs⟩ := order_num_eq (b := -1074) l1 l2 h
      rw [q1, q2] at hm
      have t1 : (i1 - -1074).toNat = (i1 + 149).toNat + 925 := by omega
      have t2 : (i2 - -1074).toNat = (i2 + 149).toNat + 925 := by omega
      rw [t1, t2, Nat.pow_add, Nat.pow_add, ← Nat.mul_assoc, ← Nat.mul_assoc] at hm
      have hm2 := Nat.eq_of_mul_eq_mul_right (Nat.two_pow_pos 925) hm
      obtain ⟨rfl, hp⟩ := norm_inj (B := 8388608) (by omega) (by omega) hm2
      have hi : i1 = i2 := by omega
      subst hi
      have hz0 : M1 = 0 → m1 = 0 := by
        intro hz
        rw [hz, Nat.zero_mul] at q1
        exact (Nat.mul_eq_zero.mp q1.symm).resolve_right (Nat.ne_of_gt (Nat.two_pow_pos _))
      rcases hs with rfl | ⟨hz, _⟩
      · left; rw [e1, e2]
      · right
        have hz := hz0 hz
        subst hz
        have a1 : (if (0 : Nat) < 8388608 then 0 else (i1 + 150).toNat * 8388608 + (0 - 8388608)) = 0 := rfl
        rw [a1] at e1 e2
        refine ⟨?_, ?_⟩
        · rw [e1]; cases s1 <;> rfl
        · rw [e2]; cases s2 <;> rfl
end Go.Proofs.YtncehlbhjoejhaaF
end
