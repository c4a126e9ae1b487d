/- The plain law of the check sum: steps, bytes, bursts (numbers alone). -/
namespace Go.Proofs.YtedmambdlkogdaaC.CrcPlain
def P : Nat := 3988292384
def step (x : Nat) : Nat := x / 2 ^^^ (if x % 2 = 1 then P else 0)
def steps : Nat → Nat → Nat
  | 0, x => x
  | n + 1, x => steps n (step x)
theorem steps_add (a b x : Nat) : steps (a + b) x = steps b (steps a x) := by
  induction a generalizing x with
  | zero => simp [steps]
  | succ a ih => rw [Nat.succ_add]; simp only [steps]; exact ih _
theorem xor_mod2 (a b : Nat) : (a ^^^ b) % 2 = (a % 2 + b % 2) % 2 := by
  have h := Nat.xor_mod_two_pow (a := a) (b := b) (n := 1)
  rw [Nat.pow_one] at h
  rw [h]
  rcases Nat.mod_two_eq_zero_or_one a with ha | ha <;> rcases Nat.mod_two_eq_zero_or_one b with hb | hb <;> simp [ha, hb]
theorem xor_div2 (a b : Nat) : (a ^^^ b) / 2 = a / 2 ^^^ b / 2 := by
  have := Nat.shiftRight_xor_distrib (a := a) (b := b) (i := 1)
  simpa [Nat.shiftRight_succ] using this
theorem step_xor (a b : Nat) : step (a ^^^ b) = step a ^^^ step b := by
  unfold step
  rw [xor_div2, xor_mod2]
  rcases Nat.mod_two_eq_zero_or_one a with ha | ha <;> rcases Nat.mod_two_eq_zero_or_one b with hb | hb <;> simp [ha, hb]
  · ac_rfl
  · ac_rfl
  · rw [show a / 2 ^^^ P ^^^ (b / 2 ^^^ P) = (a / 2 ^^^ b / 2) ^^^ (P ^^^ P) by ac_rfl]; simp
theorem steps_xor (n a b : Nat) : steps n (a ^^^ b) = steps n a ^^^ steps n b := by
  induction n generalizing a b with
  | zero => rfl
  | succ n ih => simp only [steps, step_xor, ih]
theorem steps_zero (n : Nat) : steps n 0 = 0 := by
  induction n with
  | zero => rfl
  | succ n ih => simp only [steps]; rw [show step 0 = 0 from rfl, ih]
theorem step_two (x : Nat) : step (2 * x) = x := by
  unfold step
  rw [if_neg (by omega)]
  simp
theorem steps_pow (n x : Nat) : steps n (2 ^ n * x) = x := by
  induction n generalizing x with
  | zero => simp [steps]
  | succ n ih => rw [Nat.pow_succ, show 2 ^ n * 2 * x = 2 * (2 ^ n * x) by rw [Nat.mul_comm (2 ^ n) 2, Nat.mul_assoc]]; simp only [steps, step_two, ih]
theorem step_lt {x : Nat} (h : x < 4294967296) : step x < 4294967296 := by
  unfold step
  have h1 : x / 2 < 2 ^ 32 := by omega
  split
  · exact Nat.xor_lt_two_pow (n := 32) h1 (by decide)
  · simpa using h1
theorem steps_lt (n : Nat) {x : Nat} (h : x < 4294967296) : steps n x < 4294967296 := by
  induction n generalizing x with
  | zero => exact h
  | succ n ih => exact ih (step_lt h)
theorem xor_zero {a b : Nat} (h : a ^^^ b = 0) : a = b := by
  have h2 : a ^^^ b ^^^ b = 0 ^^^ b := by rw [h]
  rw [Nat.xor_assoc, Nat.xor_self, Nat.xor_zero, Nat.zero_xor] at h2
  exact h2
/-- A step loses nothing. -/
theorem step_inj0 {x : Nat} (h : x < 4294967296) (h0 : step x = 0) : x = 0 := by
  unfold step at h0
  rcases Nat.mod_two_eq_zero_or_one x with hx | hx
  · rw [if_neg (by omega)] at h0
    simp at h0
    omega
  · rw [if_pos hx] at h0
    have h1 : x / 2 = P := xor_zero h0
    unfold P at h1
    omega
theorem steps_inj0 (n : Nat) {x : Nat} (h : x < 4294967296) (h0 : steps n x = 0) : x = 0 := by
  induction n generalizing x with
  | zero => exact h0
  | succ n ih => exact step_inj0 h (ih (step_lt h) h0)
theorem split_xor (n q r : Nat) (h : r < 2 ^ n) : 2 ^ n * q + r = (2 ^ n * q) ^^^ r := by
  rw [Nat.two_pow_add_eq_or_of_lt h]
  apply Nat.eq_of_testBit_eq
  intro i
  rw [Nat.testBit_or, Nat.testBit_xor]
  by_cases hi : i < n
  · rw [Nat.testBit_two_pow_mul]
    simp [show ¬ i ≥ n by omega]
  · rw [Nat.testBit_lt_two_pow (Nat.lt_of_lt_of_le h (Nat.pow_le_pow_right (by omega) (by omega)))]
    simp
def tab : List Nat := [0, 498536548, 997073096, 651767980, 1994146192, 1802195444, 1303535960, 1342533948, 3988292384, 4027552580, 3604390888, 3412177804, 2607071920, 2262029012, 2685067896, 3183342108]
theorem tab_ok : ∀ r, r < 16 → tab.getD r 0 = steps 4 r := by decide
theorem four_steps (x : Nat) : x / 16 ^^^ tab.getD (x % 16) 0 = steps 4 x := by
  conv => rhs; rw [← Nat.div_add_mod x 16]
  rw [show 16 * (x / 16) + x % 16 = 2 ^ 4 * (x / 16) + x % 16 from rfl, split_xor 4 _ _ (by omega), steps_xor, steps_pow, tab_ok _ (by omega)]
/-- A byte. -/
def byte (s c : Nat) : Nat := steps 8 (s ^^^ c)
theorem byte_halves (s c : Nat) : steps 4 (steps 4 (s ^^^ c % 16) ^^^ c / 16) = byte s c := by
  unfold byte
  rw [show (8 : Nat) = 4 + 4 from rfl, steps_add]
  congr 1
  conv => rhs; rw [← Nat.div_add_mod c 16]
  rw [show 16 * (c / 16) + c % 16 = 2 ^ 4 * (c / 16) + c % 16 from rfl, split_xor 4 _ _ (by omega), show s ^^^ (2 ^ 4 * (c / 16) ^^^ c % 16) = (s ^^^ c % 16) ^^^ 2 ^ 4 * (c / 16) by ac_rfl, steps_xor 4 (s ^^^ c % 16), steps_pow]

def upd (s : Nat) (l : List Nat) : Nat := l.foldl byte s
theorem upd_append (s : Nat) (a b : List Nat) : upd s (a ++ b) = upd (upd s a) b := by unfold upd; rw [List.foldl_append]
theorem byte_lt {s c : Nat} (hs : s < 4294967296) (hc : c < 256) : byte s c < 4294967296 := by
  unfold byte
  exact steps_lt 8 (Nat.xor_lt_two_pow (n := 32) hs (by omega))
theorem upd_lt {s : Nat} (l : List Nat) (hs : s < 4294967296) (hl : ∀ c ∈ l, c < 256) : upd s l < 4294967296 := by
  induction l generalizing s with
  | nil => exact hs
  | cons c l ih => exact ih (byte_lt hs (hl c (by simp))) (fun d hd => hl d (by simp [hd]))
/-- The number that bytes are, the lowest one ahead. -/
def num : List Nat → Nat
  | [] => 0
  | c :: l => c + 256 * num l
theorem upd_num (l : List Nat) : ∀ s, (∀ c ∈ l, c < 256) → upd s l = steps (8 * l.length) (s ^^^ num l) := by
  induction l with
  | nil => intro s _; simp [upd, num, steps]
  | cons c l ih =>
    intro s hl
    have hc : c < 256 := hl c (by simp)
    show upd (byte s c) l = _
    rw [ih _ (fun d hd => hl d (by simp [hd]))]
    rw [show 8 * (c :: l).length = 8 + 8 * l.length by simp; omega, steps_add]
    congr 1
    unfold byte
    rw [show num (c :: l) = c + 256 * num l from rfl, show c + 256 * num l = 2 ^ 8 * num l + c by omega, split_xor 8 _ _ (by omega), show s ^^^ (2 ^ 8 * num l ^^^ c) = (s ^^^ c) ^^^ 2 ^ 8 * num l by ac_rfl, steps_xor 8 (s ^^^ c), steps_pow]
theorem mul_xor (n a b : Nat) : 2 ^ n * (a ^^^ b) = 2 ^ n * a ^^^ 2 ^ n * b := by
  have := Nat.shiftLeft_xor_distrib (a := a) (b := b) (i := n)
  simp only [Nat.shiftLeft_eq] at this
  rw [Nat.mul_comm, this, Nat.mul_comm a, Nat.mul_comm b]
theorem num_toggle (l : List Nat) : ∀ p, p < 8 * l.length → (∀ c ∈ l, c < 256) → num (l.set (p / 8) (l.getD (p / 8) 0 ^^^ 2 ^ (p % 8))) = num l ^^^ 2 ^ p := by
  induction l with
  | nil => intro p hp; simp at hp
  | cons c l ih =>
    intro p hp hl
    have hc : c < 256 := hl c (by simp)
    by_cases h8 : p < 8
    · rw [Nat.div_eq_of_lt h8, Nat.mod_eq_of_lt h8]
      show (c ^^^ 2 ^ p) + 256 * num l = (c + 256 * num l) ^^^ 2 ^ p
      have h2 : 2 ^ p < 2 ^ 8 := Nat.pow_lt_pow_right (by omega) h8
      have h3 : c ^^^ 2 ^ p < 2 ^ 8 := Nat.xor_lt_two_pow (n := 8) hc h2
      rw [show (c ^^^ 2 ^ p) + 256 * num l = 2 ^ 8 * num l + (c ^^^ 2 ^ p) by omega, split_xor 8 _ _ h3, show c + 256 * num l = 2 ^ 8 * num l + c by omega, split_xor 8 _ _ (by omega)]
      ac_rfl
    · obtain ⟨q, rfl⟩ : ∃ q, p = q + 8 := ⟨p - 8, by omega⟩
      rw [show (q + 8) / 8 = q / 8 + 1 by omega, show (q + 8) % 8 = q % 8 by omega]
      show c + 256 * num (l.set (q / 8) (l.getD (q / 8) 0 ^^^ 2 ^ (q % 8))) = (c + 256 * num l) ^^^ 2 ^ (q + 8)
      rw [ih q (by simp at hp; omega) (fun d hd => hl d (by simp [hd]))]
      rw [show ∀ x, c + 256 * x = 2 ^ 8 * x + c from fun x => by omega, split_xor 8 _ _ (by omega), show ∀ x, c + 256 * x = 2 ^ 8 * x + c from fun x => by omega, split_xor 8 _ _ (by omega), mul_xor, show 2 ^ 8 * 2 ^ q = 2 ^ (q + 8) by rw [Nat.pow_add, Nat.mul_comm]]
      ac_rfl
/-- Bits turned within 32 in a row turn the sum. -/
theorem burst (l m : List Nat) (at_ V : Nat) (s : Nat) (hl : ∀ c ∈ l, c < 256) (hm : ∀ c ∈ m, c < 256) (hlen : m.length = l.length) (hat : at_ ≤ 8 * l.length) (hV : V < 4294967296) (hn : num m = num l ^^^ 2 ^ at_ * V) :
    upd s m = upd s l ↔ V = 0 := by
  rw [upd_num m s hm, upd_num l s hl, hlen, hn, ← Nat.xor_assoc, steps_xor _ (s ^^^ num l)]
  rw [show 8 * l.length = at_ + (8 * l.length - at_) by omega, steps_add _ _ (2 ^ at_ * V), steps_pow]
  constructor
  · intro h
    refine steps_inj0 (8 * l.length - at_) hV ?_
    have h2 : ∀ a b : Nat, a ^^^ b = a → b = 0 := fun a b h => by
      have h3 : a ^^^ (a ^^^ b) = a ^^^ a := by rw [h]
      rw [← Nat.xor_assoc, Nat.xor_self, Nat.zero_xor] at h3
      exact h3
    exact h2 _ _ h
  · rintro rfl
    rw [steps_zero, Nat.xor_zero]
theorem upd_own (s : Nat) (a b c d : Nat) (ha : a < 256) (hb : b < 256) (hc : c < 256) (hd : d < 256) (h : s ^^^ num [a, b, c, d] = 4294967295) : upd s [a, b, c, d] = steps 32 4294967295 := by
  rw [upd_num _ _ (by simp; omega), h]; rfl
end Go.Proofs.YtedmambdlkogdaaC.CrcPlain
