/- Plain aids: the sum that four bytes are. -/
import Derived.Test.YtedmambdlkogdaaAid
import Derived.Test.YtedmambdlkogdaaH5
import Derived.Test.YtedmambdlkogdaaH9
import Derived.Laws.BitsAllLaws
namespace Go.Proofs.Ytedmambdlkogdaa.Aid
open Go.RowKit Go.Proofs.YtedmambdlkogdaaW.PrintWords Go.Proofs.YtedmambdlkogdaaW.PrintLast Go.Proofs.YtedmambdlkogdaaW.PrintMore Go.Proofs.Ytedmambdlkogdaa.H Go.Proofs.YtedmambdlkogdaaO Go.Proofs.YtedmambdlkogdaaC
theorem or_step (e x v : Nat) (he : e = 0 ∨ e = 8 ∨ e = 16 ∨ e = 24) (hx : x < 2 ^ e) (hv : v < 256) : Go.bits .or .u32 (x : Int) (shl .u32 ((v : Int) % 4294967296) (e : Int)) = ((x + v * 2 ^ e : Nat) : Int) := by
  have hp : v * 2 ^ e < 4294967296 ∧ x < 4294967296 ∧ x + v * 2 ^ e < 4294967296 := by
    rcases he with rfl | rfl | rfl | rfl <;> omega
  have hs : shl .u32 ((v : Int) % 4294967296) (e : Int) = ((v * 2 ^ e : Nat) : Int) := by
    unfold shl
    rw [show ((v : Int) % 4294967296) = (v : Int) by omega, Int.toNat_natCast, show min e IntKind.u32.bits = e by rcases he with rfl | rfl | rfl | rfl <;> rfl, IntKind.wrap_u32']
    have : ((v : Int) * 2 ^ e) = ((v * 2 ^ e : Nat) : Int) := by rw [Int.natCast_mul, Int.natCast_pow]; rfl
    rw [this]
    omega
  rw [hs, u32_or_nat _ _ hp.2.1 hp.1, Nat.or_comm, Nat.mul_comm, ← Nat.two_pow_add_eq_or_of_lt hx, Nat.add_comm]
theorem of_some {a b c d : Nat} (ha : a < 256) (hb : b < 256) (hc : c < 256) (hd : d < 256) : sums_Of.f 5 [(a : Int), b, c, d] = some (((a + b * 2 ^ 8 + c * 2 ^ 16 + d * 2 ^ 24 : Nat) : Int), 0) := by
  unfold sums_Of.f
  rw [if_neg (by simp), if_neg (by simp)]
  have w : ∀ n : Int, 0 ≤ n → n ≤ 1000 → wrap64 n = n := fun n h0 h1 => by unfold wrap64; omega
  rw [sums_Of.l0, if_pos (by simp), if_pos (by omega), if_pos (by simp), w _ (by omega) (by omega), if_pos (by omega), w _ (by omega) (by omega)]
  rw [show rd [(a : Int), b, c, d] 0 = (a : Int) from rfl, show (8 * 0 : Int) = ((0 : Nat) : Int) from rfl, show Go.bits .or .u32 0 (shl .u32 ((a : Int) % 4294967296) ((0 : Nat) : Int)) = ((a : Nat) : Int) by have := or_step 0 0 a (by omega) (by omega) ha; simpa using this]
  rw [sums_Of.l0, if_pos (by simp), if_pos (by omega), if_pos (by simp), w _ (by omega) (by omega), if_pos (by omega), w _ (by omega) (by omega)]
  rw [show rd [(a : Int), b, c, d] (0 + 1) = (b : Int) from rfl, show (8 * (0 + 1) : Int) = ((8 : Nat) : Int) from rfl, or_step 8 a b (by omega) (by omega) hb]
  rw [sums_Of.l0, if_pos (by simp), if_pos (by omega), if_pos (by simp), w _ (by omega) (by omega), if_pos (by omega), w _ (by omega) (by omega)]
  rw [show rd [(a : Int), b, c, d] (0 + 1 + 1) = (c : Int) from rfl, show (8 * (0 + 1 + 1) : Int) = ((16 : Nat) : Int) from rfl, or_step 16 _ c (by omega) (by omega) hc]
  rw [sums_Of.l0, if_pos (by simp), if_pos (by omega), if_pos (by simp), w _ (by omega) (by omega), if_pos (by omega), w _ (by omega) (by omega)]
  rw [show rd [(a : Int), b, c, d] (0 + 1 + 1 + 1) = (d : Int) from rfl, show (8 * (0 + 1 + 1 + 1) : Int) = ((24 : Nat) : Int) from rfl, or_step 24 _ d (by omega) (by omega) hd]
  rw [sums_Of.l0, if_neg (by simp)]
theorem refBytes_some {a b c d : Nat} (ha : a < 256) (hb : b < 256) (hc : c < 256) (hd : d < 256) : marquetryref02_Bytes.f ((a + b * 2 ^ 8 + c * 2 ^ 16 + d * 2 ^ 24 : Nat) : Int) = some [(a : Int), b, c, d] := by
  unfold marquetryref02_Bytes.f
  rw [Int.tmod_eq_emod_of_nonneg (by omega), Int.tdiv_eq_ediv_of_nonneg (by omega), Int.tdiv_eq_ediv_of_nonneg (by omega), Int.tdiv_eq_ediv_of_nonneg (by omega)]
  congr 2
  · omega
  · congr 1
    · omega
    · congr 1
      · omega
      · congr 1
        omega
theorem num_some (e : Int) : marquetrylaw02_num.f e = some e := rfl
end Go.Proofs.Ytedmambdlkogdaa.Aid
