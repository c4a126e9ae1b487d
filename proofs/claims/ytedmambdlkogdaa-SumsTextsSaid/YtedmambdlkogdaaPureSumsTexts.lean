/- A sum's bytes and its text, there and back (SumsTexts), at every sum. -/
import Derived.Test.YtedmambdlkogdaaSaySumsTexts
import Derived.Test.YtedmambdlkogdaaOfAid
namespace Go.Proofs.Ytedmambdlkogdaa.sumsTexts
open Go.RowKit Go.Proofs.YtedmambdlkogdaaW.PrintWords Go.Proofs.YtedmambdlkogdaaW.PrintLast Go.Proofs.YtedmambdlkogdaaW.PrintMore Go.Proofs.Ytedmambdlkogdaa.H Go.Proofs.YtedmambdlkogdaaO Go.Proofs.Ytedmambdlkogdaa.Aid
set_option linter.unusedVariables false
def four (c : Int) : List Int := [c % 256, c / 256 % 256, c / 256 / 256 % 256, c / 256 / 256 / 256 % 256]
theorem bytes_some (k : Nat) (c : Int) : sums_Bytes.f (k + 5) c = some (four c) := by
  unfold sums_Bytes.f four
  rw [sums_Bytes.l0, if_pos (by omega), if_pos (by simp), show wrap64 (0 + 1) = 1 by unfold wrap64; omega]
  rw [sums_Bytes.l0, if_pos (by omega), if_pos (by simp), show wrap64 (1 + 1) = 2 by unfold wrap64; omega]
  rw [sums_Bytes.l0, if_pos (by omega), if_pos (by simp), show wrap64 (2 + 1) = 3 by unfold wrap64; omega]
  rw [sums_Bytes.l0, if_pos (by omega), if_pos (by simp), show wrap64 (3 + 1) = 4 by unfold wrap64; omega]
  rw [sums_Bytes.l0, if_neg (by omega)]
  rfl
def hexs : ByteArray := ⟨#[48, 49, 50, 51, 52, 53, 54, 55, 56, 57, 97, 98, 99, 100, 101, 102]⟩
theorem hex_bt (d : Nat) (hd : d < 16) : bt hexs (d : Int) = hexd d := by
  have : ∀ d : Fin 16, bt hexs ((d.val : Nat) : Int) = hexd d.val := by decide +kernel
  exact this ⟨d, hd⟩
theorem text_step (k : Nat) (n : Nat) (hn : n < 4294967296) (xs : List Int) (hl : xs.length = 8) (i : Nat) (hi : i < 8) :
    marquetryref02_Text.l0 (k + 1) (n : Int) hexs xs (i : Int) = marquetryref02_Text.l0 k ((n / 16 : Nat) : Int) hexs (xs.set i (hexd (n % 16))) ((i : Int) - 1) := by
  have hs : hexs.size = 16 := rfl
  rw [marquetryref02_Text.l0, if_pos (by omega), Int.tmod_eq_emod_of_nonneg (by omega), Int.tdiv_eq_ediv_of_nonneg (by omega), if_pos (by omega), if_pos (by rw [hs]; omega), if_pos (by omega), if_pos (by omega)]
  rw [show ((n : Int) % 16) = ((n % 16 : Nat) : Int) by omega, hex_bt _ (by omega), show ((n : Int) / 16 % 4294967296) = ((n / 16 : Nat) : Int) by omega, show wrap64 ((i : Int) - 1) = (i : Int) - 1 by unfold wrap64; omega, Int.toNat_natCast]
theorem text_some (k : Nat) (n : Nat) (hn : n < 4294967296) : marquetryref02_Text.f (k + 9) (n : Int) = some (strOfNums (hex8 n)) := by
  unfold marquetryref02_Text.f
  rw [if_pos (by omega)]
  show marquetryref02_Text.l0 (k + 8 + 1) (n : Int) hexs (List.replicate 8 0) ((7 : Nat) : Int) = _
  rw [text_step _ n hn _ (by simp) 7 (by omega), show (((7 : Nat) : Int) - 1) = ((6 : Nat) : Int) from rfl]
  rw [text_step _ _ (by omega) _ (by simp) 6 (by omega), show (((6 : Nat) : Int) - 1) = ((5 : Nat) : Int) from rfl]
  rw [text_step _ _ (by omega) _ (by simp) 5 (by omega), show (((5 : Nat) : Int) - 1) = ((4 : Nat) : Int) from rfl]
  rw [text_step _ _ (by omega) _ (by simp) 4 (by omega), show (((4 : Nat) : Int) - 1) = ((3 : Nat) : Int) from rfl]
  rw [text_step _ _ (by omega) _ (by simp) 3 (by omega), show (((3 : Nat) : Int) - 1) = ((2 : Nat) : Int) from rfl]
  rw [text_step _ _ (by omega) _ (by simp) 2 (by omega), show (((2 : Nat) : Int) - 1) = ((1 : Nat) : Int) from rfl]
  rw [text_step _ _ (by omega) _ (by simp) 1 (by omega), show (((1 : Nat) : Int) - 1) = ((0 : Nat) : Int) from rfl]
  rw [text_step _ _ (by omega) _ (by simp) 0 (by omega)]
  rw [marquetryref02_Text.l0, if_neg (by omega)]
  simp only [Nat.div_div_eq_div_mul, Nat.reduceMul]
  rfl
theorem ours_some (n : Nat) (hn : n < 4294967296) : sums_Text.f (n : Int) = some (strOfNums (hex8 n)) := by
  unfold sums_Text.f
  rw [if_pos ⟨by omega, by omega⟩, Int.toNat_natCast]
theorem pure_ : Pure := by
  intro s hs
  obtain ⟨h0, h1⟩ := wf_u32 hs
  obtain ⟨n, rfl⟩ := Int.eq_ofNat_of_zero_le h0
  obtain ⟨a, b, c, d, ha, hb, hc, hd, he⟩ : ∃ a b c d : Nat, a < 256 ∧ b < 256 ∧ c < 256 ∧ d < 256 ∧ n = a + b * 2 ^ 8 + c * 2 ^ 16 + d * 2 ^ 24 := ⟨n % 256, n / 256 % 256, n / 65536 % 256, n / 16777216, by omega, by omega, by omega, by omega, by omega⟩
  have e1 : sums_Bytes.f (5 + 5) (n : Int) = some [(a : Int), b, c, d] := by
    rw [bytes_some 5]
    unfold four
    congr 2
    · omega
    · congr 1
      · omega
      · congr 1
        · omega
        · congr 1
          omega
  have e2 : sums_Of.f 10 [(a : Int), b, c, d] = some ((n : Int), 0) := by
    have h5 := of_some ha hb hc hd
    rw [← he] at h5
    have hm : ∀ m, sums_Of.f (5 + m) [(a : Int), b, c, d] = some ((n : Int), 0) := fun m => by
      induction m with
      | zero => exact h5
      | succ m ih => exact sums_Of.mono _ (5 + m) _ ih
    exact hm 5
  have e3 : marquetryref02_Bytes.f (n : Int) = some [(a : Int), b, c, d] := by rw [he]; exact refBytes_some ha hb hc hd
  have e4 := ours_some n (by omega)
  have e5 := text_some 1 n (by omega)
  refine ⟨10, ?_⟩
  unfold marquetrylaw02_SumsTexts.f
  rw [bind_of e1, bind_of e2, bind_of e3, if_pos rfl, if_pos rfl, bind_of (num_some _), if_pos rfl, bind_of e4, bind_of e5, if_pos rfl, bind_of works_some]
end Go.Proofs.Ytedmambdlkogdaa.sumsTexts
