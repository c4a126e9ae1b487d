/- Plain aids: the document's sum, bit by bit, is ours. -/
import Derived.Test.YtedmambdlkogdaaAid
import Derived.Test.YtedmambdlkogdaaH20
import Derived.Test.YtedmambdlkogdaaH21
import Derived.Laws.BitsAllLaws
namespace Go.Proofs.Ytedmambdlkogdaa.Aid
open Go.RowKit Go.Proofs.YtedmambdlkogdaaW.PrintWords Go.Proofs.YtedmambdlkogdaaW.PrintLast Go.Proofs.YtedmambdlkogdaaW.PrintMore Go.Proofs.Ytedmambdlkogdaa.H Go.Proofs.YtedmambdlkogdaaO Go.Proofs.YtedmambdlkogdaaC
theorem step_some {s : Nat} (hs : s < 4294967296) : marquetryref02_Step.f (s : Int) = some ((CrcPlain.step s : Nat) : Int) := by
  unfold marquetryref02_Step.f
  rw [Int.tmod_eq_emod_of_nonneg (by omega), Int.tdiv_eq_ediv_of_nonneg (by omega), show ((s : Int) / 2 % 4294967296) = ((s / 2 : Nat) : Int) by omega]
  unfold CrcPlain.step
  by_cases h : s % 2 = 1
  · rw [if_pos (by omega), if_pos h, show (3988292384 : Int) = ((3988292384 : Nat) : Int) from rfl, u32_xor_nat _ _ (by omega) (by omega)]
    rfl
  · rw [if_neg (by omega), if_neg h, Nat.xor_zero]
theorem take_loop (d : Nat) : ∀ (k s : Nat) (i : Int), s < 4294967296 → 0 ≤ i → i + d = 8 → d < k → marquetryref02_Take.l0 k (s : Int) i = some ((CrcPlain.steps d s : Nat) : Int) := by
  induction d with
  | zero =>
    intro k s i hs h0 hd hk
    obtain ⟨k, rfl⟩ : ∃ m, k = m + 1 := ⟨k - 1, by omega⟩
    rw [marquetryref02_Take.l0, if_neg (by omega)]
    rfl
  | succ d ih =>
    intro k s i hs h0 hd hk
    obtain ⟨k, rfl⟩ : ∃ m, k = m + 1 := ⟨k - 1, by omega⟩
    rw [marquetryref02_Take.l0, if_pos (by omega), bind_of (step_some hs), show wrap64 (i + 1) = i + 1 by unfold wrap64; omega]
    exact ih k _ (i + 1) (CrcPlain.step_lt hs) (by omega) (by omega) (by omega)
theorem take_some {s c k : Nat} (hs : s < 4294967296) (hc : c < 256) (hk : 8 < k) : marquetryref02_Take.f k (s : Int) (c : Int) = some ((CrcPlain.byte s c : Nat) : Int) := by
  unfold marquetryref02_Take.f
  rw [show ((c : Int) % 4294967296) = (c : Int) by omega, u32_xor_nat _ _ hs (by omega)]
  exact take_loop 8 k _ 0 (Nat.xor_lt_two_pow (n := 32) hs (by omega)) (by omega) (by omega) hk
theorem update_loop (l : List Int) (hl : By l) (hlen : l.length ≤ 10000) (d : Nat) : ∀ (k s i : Nat), s < 4294967296 → i + d = l.length → d + 9 < k →
    marquetryref02_Update.l0 k (s : Int) l (i : Int) = some ((4294967295 - CrcPlain.upd s ((l.drop i).map Int.toNat) : Nat) : Int) := by
  induction d with
  | zero =>
    intro k s i hs hd hk
    obtain ⟨k, rfl⟩ : ∃ m, k = m + 1 := ⟨k - 1, by omega⟩
    rw [marquetryref02_Update.l0, if_neg (by omega), List.drop_of_length_le (by omega), show (4294967295 : Int) = ((4294967295 : Nat) : Int) from rfl, u32_xor_nat _ _ hs (by omega), xorAll s hs]
    rfl
  | succ d ih =>
    intro k s i hs hd hk
    obtain ⟨k, rfl⟩ : ∃ m, k = m + 1 := ⟨k - 1, by omega⟩
    have hi : i < l.length := by omega
    have hx := hl _ (List.getElem_mem hi)
    have hrd : rd l (i : Int) = ((l[i].toNat : Nat) : Int) := by
      unfold rd
      rw [Int.toNat_natCast, List.getD_eq_getElem?_getD, List.getElem?_eq_getElem hi]
      simp only [Option.getD_some]
      omega
    rw [marquetryref02_Update.l0, if_pos (by omega), if_pos (by omega), hrd, bind_of (take_some hs (by omega) (by omega)), show wrap64 ((i : Int) + 1) = ((i + 1 : Nat) : Int) by unfold wrap64; omega]
    rw [ih k _ (i + 1) (CrcPlain.byte_lt hs (by omega)) (by omega) (by omega), List.drop_eq_getElem_cons hi]
    rfl
theorem refUpdate_some {a : Int} {l : List Int} (h0 : 0 ≤ a) (h1 : a < 4294967296) (hl : By l) (hlen : l.length ≤ 10000) : marquetryref02_Update.f (l.length + 10) a l = some (updI a l) := by
  obtain ⟨n, rfl⟩ := Int.eq_ofNat_of_zero_le h0
  unfold marquetryref02_Update.f
  rw [show (4294967295 : Int) = ((4294967295 : Nat) : Int) from rfl, u32_xor_nat _ _ (by omega) (by omega), xorAll n (by omega)]
  have := update_loop l hl hlen l.length (l.length + 10) (4294967295 - n) 0 (by omega) (by omega) (by omega)
  rw [show ((0 : Nat) : Int) = 0 from rfl] at this
  rw [this]
  rfl
end Go.Proofs.Ytedmambdlkogdaa.Aid
