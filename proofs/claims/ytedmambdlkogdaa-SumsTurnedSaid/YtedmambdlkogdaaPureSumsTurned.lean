/- Bytes of which at most 32 bits in a row are turned have another sum (SumsTurned), at every byte string, place and bits that the guard lets in. -/
import Derived.Test.YtedmambdlkogdaaSaySumsTurned
import Derived.Test.YtedmambdlkogdaaAid
import Derived.Laws.BitsAllLaws
namespace Go.Proofs.Ytedmambdlkogdaa.sumsTurned
open Go.RowKit Go.Proofs.YtedmambdlkogdaaW.PrintWords Go.Proofs.YtedmambdlkogdaaW.PrintLast Go.Proofs.YtedmambdlkogdaaW.PrintMore Go.Proofs.Ytedmambdlkogdaa.H Go.Proofs.YtedmambdlkogdaaO Go.Proofs.Ytedmambdlkogdaa.Aid Go.Proofs.YtedmambdlkogdaaC
set_option linter.unusedVariables false
theorem updI_eq {b m : List Int} (hb : By b) (hm : By m) : (updI 0 m = updI 0 b) ↔ CrcPlain.upd 4294967295 (m.map Int.toNat) = CrcPlain.upd 4294967295 (b.map Int.toNat) := by
  have h1 := upd_ok (s := 4294967295) (by omega) hb
  have h2 := upd_ok (s := 4294967295) (by omega) hm
  unfold updI
  simp only [Int.toNat_zero, Nat.sub_zero]
  omega
/-- What holds while bits are turned: V bits from a place on. -/
structure Inv (b : List Int) (at_ i : Nat) (m : List Int) (t : Bool) (V : Nat) : Prop where
  by_ : By m
  len : m.length = b.length
  lt : V < 2 ^ i
  num : CrcPlain.num (m.map Int.toNat) = CrcPlain.num (b.map Int.toNat) ^^^ 2 ^ at_ * V
  told : t = decide (V ≠ 0)
theorem set_map (m : List Int) (j : Nat) (x : Int) : (m.set j x).map Int.toNat = (m.map Int.toNat).set j x.toNat := by rw [List.map_set]
theorem rd_map (m : List Int) (j : Nat) : (m.map Int.toNat).getD j 0 = (m.getD j 0).toNat := by
  simp only [List.getD_eq_getElem?_getD, List.getElem?_map]
  cases m[j]? <;> rfl
theorem by_getD {m : List Int} (h : By m) (j : Nat) : 0 ≤ m.getD j 0 ∧ m.getD j 0 < 256 := by
  rw [List.getD_eq_getElem?_getD]
  rcases Nat.lt_or_ge j m.length with hj | hj
  · rw [List.getElem?_eq_getElem hj]; exact h _ (List.getElem_mem hj)
  · rw [List.getElem?_eq_none hj]; simp
theorem by_set {m : List Int} (h : By m) (j : Nat) {x : Int} (h0 : 0 ≤ x) (h1 : x < 256) : By (m.set j x) := fun y hy => by
  rcases List.mem_or_eq_of_mem_set hy with h2 | rfl
  · exact h y h2
  · exact ⟨h0, h1⟩
theorem turn {b : List Int} {at_ i : Nat} {m : List Int} {t : Bool} {V : Nat} (h : Inv b at_ i m t V) (hlt : at_ + i < 8 * b.length) :
    Inv b at_ (i + 1) (m.set ((at_ + i) / 8) (((m.getD ((at_ + i) / 8) 0).toNat ^^^ 2 ^ ((at_ + i) % 8) : Nat) : Int)) true (V ^^^ 2 ^ i) := by
  have hg := by_getD h.by_ ((at_ + i) / 8)
  have hp : (2 : Nat) ^ ((at_ + i) % 8) < 2 ^ 8 := Nat.pow_lt_pow_right (by omega) (by omega)
  have hx : (m.getD ((at_ + i) / 8) 0).toNat ^^^ 2 ^ ((at_ + i) % 8) < 2 ^ 8 := Nat.xor_lt_two_pow (by omega) hp
  have hV : V ^^^ 2 ^ i ≠ 0 := fun e => by
    have := CrcPlain.xor_zero e
    have := h.lt
    omega
  refine ⟨by_set h.by_ _ (by omega) (by omega), by rw [List.length_set]; exact h.len, ?_, ?_, by simp [hV]⟩
  · refine Nat.xor_lt_two_pow (Nat.lt_of_lt_of_le h.lt (Nat.pow_le_pow_right (by omega) (by omega))) (Nat.pow_lt_pow_right (by omega) (by omega))
  · have hn := CrcPlain.num_toggle (m.map Int.toNat) (at_ + i) (by rw [List.length_map, h.len]; exact hlt) (by_nat h.by_)
    rw [rd_map] at hn
    rw [set_map, Int.toNat_natCast, hn, h.num, CrcPlain.mul_xor, Nat.xor_assoc, show 2 ^ at_ * 2 ^ i = 2 ^ (at_ + i) by rw [Nat.pow_add]]
theorem done_ {b : List Int} {at_ i : Nat} {m : List Int} {t : Bool} {V : Nat} (hb : By b) (h : Inv b at_ i m t V) (hi : i ≤ 32) (hat : at_ < 8 * b.length) : ((updI 0 m != updI 0 b) == t) = true := by
  have hV : V < 4294967296 := Nat.lt_of_lt_of_le h.lt (Nat.pow_le_pow_right (by omega : 0 < 2) hi)
  have hq := CrcPlain.burst (b.map Int.toNat) (m.map Int.toNat) at_ V 4294967295 (by_nat hb) (by_nat h.by_) (by simp [h.len]) (by simp; omega) hV h.num
  rw [← updI_eq hb h.by_] at hq
  rw [h.told]
  by_cases h0 : V = 0
  · have := hq.2 h0
    simp [this, h0]
  · have : updI 0 m ≠ updI 0 b := fun e => h0 (hq.1 e)
    simp [this, h0]
theorem wrap_ok {x : Int} (h0 : 0 ≤ x) (h1 : x ≤ 1000000) : wrap64 x = x := by unfold wrap64; omega
theorem shl_ok (e : Nat) (he : e < 8) : shl .u8 1 (e : Int) = ((2 ^ e : Nat) : Int) := by
  have : e = 0 ∨ e = 1 ∨ e = 2 ∨ e = 3 ∨ e = 4 ∨ e = 5 ∨ e = 6 ∨ e = 7 := by omega
  rcases this with rfl | rfl | rfl | rfl | rfl | rfl | rfl | rfl <;> decide +kernel
theorem finish {b : List Int} {at_ i : Nat} {m : List Int} {t : Bool} {V : Nat} (k : Nat) (bits : Int) (hb : By b) (h : Inv b at_ i m t V) (hi : i ≤ 32) (hat : at_ < 8 * b.length) (x9 : Int) :
    marquetrylaw02_SumsTurned.j2 (k + 1) b at_ bits m t x9 false = some true := by
  rw [marquetrylaw02_SumsTurned.j2, if_neg (by simp), bind_of (crc_some h.by_), bind_of (crc_some hb), if_pos (done_ hb h hi hat), bind_of works_some]
theorem rounds {b : List Int} {at_ : Nat} (bits : Int) (hb : By b) (hat : at_ < 8 * b.length) (hlen : b.length ≤ 10000) (d : Nat) : ∀ (i : Nat) (m : List Int) (t : Bool) (V : Nat), i + d = 32 → Inv b at_ i m t V →
    marquetrylaw02_SumsTurned.l0 (2 * d + 2) b at_ bits m t i = some true := by
  induction d with
  | zero =>
    intro i m t V hi h
    rw [show 2 * 0 + 2 = 0 + 1 + 1 from rfl, marquetrylaw02_SumsTurned.l0, if_neg (by omega)]
    exact finish _ _ hb h (by omega) hat _
  | succ d ih =>
    intro i m t V hi h
    rw [show 2 * (d + 1) + 2 = 2 * d + 2 + 1 + 1 from rfl, marquetrylaw02_SumsTurned.l0, if_pos (by omega), wrap_ok (by omega) (by omega), wrap_ok (by omega) (by omega)]
    by_cases hlt : at_ + i < 8 * b.length
    · rw [decide_eq_true (by omega), marquetrylaw02_SumsTurned.j2, if_pos rfl, if_pos (by omega)]
      by_cases hbit : Go.bits .and .u32 (shr .u32 bits i) 1 = 1
      · have hq : Int.tdiv ((at_ : Int) + i) 8 = (((at_ + i) / 8 : Nat) : Int) := by rw [Int.tdiv_eq_ediv_of_nonneg (by omega)]; omega
        have hr : Int.tmod ((at_ : Int) + i) 8 = (((at_ + i) % 8 : Nat) : Int) := by rw [Int.tmod_eq_emod_of_nonneg (by omega)]; omega
        have hg := by_getD h.by_ ((at_ + i) / 8)
        have hp : (2 : Nat) ^ ((at_ + i) % 8) < 2 ^ 8 := Nat.pow_lt_pow_right (by omega) (by omega)
        have hml := h.len
        rw [if_pos hbit, wrap_ok (x := (at_ : Int) + i) (by omega) (by omega), hq, hr, wrap_ok (by omega) (by omega), if_pos (by omega), if_pos (by omega), if_pos (by omega), Int.toNat_natCast, shl_ok _ (by omega)]
        have hrd : rd m (((at_ + i) / 8 : Nat) : Int) = (((m.getD ((at_ + i) / 8) 0).toNat : Nat) : Int) := by
          unfold rd
          rw [Int.toNat_natCast]
          omega
        rw [hrd, u8_xor_nat _ _ (by omega) (by omega), wrap_ok (by omega) (by omega)]
        have := ih (i + 1) _ true _ (by omega) (turn h hlt)
        rwa [Int.natCast_add] at this
      · rw [if_neg hbit, wrap_ok (by omega) (by omega)]
        have := ih (i + 1) m t V (by omega) ⟨h.by_, h.len, Nat.lt_of_lt_of_le h.lt (Nat.pow_le_pow_right (by omega) (by omega)), h.num, h.told⟩
        rwa [Int.natCast_add] at this
    · rw [decide_eq_false (by omega)]
      exact finish _ _ hb h (by omega) hat _
theorem pure_ : Pure := by
  intro b at_ bits ⟨_, hb, gb⟩ hat hbits
  have Bb := by_wf gb
  have hmin : IntKind.i64.min = -9223372036854775808 := rfl
  have hmax : IntKind.i64.max = 9223372036854775807 := rfl
  simp only [Lit.wf, Bool.and_eq_true, decide_eq_true_eq] at hat
  refine ⟨67, ?_⟩
  have j0t : ∀ x1 x2, marquetrylaw02_SumsTurned.j0 67 b x1 x2 true = some true := fun x1 x2 => by
    rw [marquetrylaw02_SumsTurned.j0, if_pos rfl, bind_of works_some]
  unfold marquetrylaw02_SumsTurned.f
  by_cases h1 : (b.length : Int) > 10000
  · rw [if_pos h1, j0t]
  · rw [if_neg h1]
    by_cases h2 : at_ < 0
    · rw [if_pos h2, j0t]
    · rw [if_neg h2, wrap_ok (by omega) (by omega)]
      by_cases h3 : at_ ≥ 8 * (b.length : Int)
      · rw [if_pos h3, j0t]
      · rw [if_neg h3]
        by_cases h4 : bits = 0
        · rw [show (bits == 0) = true from beq_iff_eq.2 h4, j0t]
        · rw [show (bits == 0) = false from beq_eq_false_iff_ne.2 h4, marquetrylaw02_SumsTurned.j0, if_neg (by simp), Option.bind_some, if_pos (by simp; omega), List.nil_append]
          obtain ⟨n, rfl⟩ := Int.eq_ofNat_of_zero_le (show 0 ≤ at_ by omega)
          exact rounds bits Bb (by omega) (by omega) 32 0 b false 0 (by omega) ⟨Bb, rfl, by decide, by simp, by simp⟩
end Go.Proofs.Ytedmambdlkogdaa.sumsTurned
