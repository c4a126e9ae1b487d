/- The reference's Write and Read are the plain laid and back. -/
import Derived.Test.YtkpmjijhgmmjoaaPureStreamBack
import Derived.Test.YtkpmjijhgmmjoaaPureStreamPlaces
import Derived.Test.YtkpmjijhgmmjoaaSayStreamWrites
import Derived.Test.YtkpmjijhgmmjoaaSayStreamReads
namespace Go.Proofs.Ytkpmjijhgmmjoaa.streamRef
open Go.RowKit Go.Proofs.YtkpmjijhgmmjoaaW.PrintWords Go.Proofs.YtkpmjijhgmmjoaaW.PrintLast Go.Proofs.YtkpmjijhgmmjoaaW.PrintMore Go.Proofs.Ytkpmjijhgmmjoaa.H Go.Proofs.YtkpmjijhgmmjoaaO Go.Proofs.YtkpmjijhgmmjoaaP Go.Proofs.Ytkpmjijhgmmjoaa.streamBack
set_option linter.unusedVariables false
theorem wrap_nat (n : Nat) (h : n ≤ 4611686018427387904) : wrap64 (n : Int) = (n : Int) := by
  unfold wrap64
  omega
theorem rd_getD (l : List Int) (i : Nat) : rd l (i : Int) = l.getD i 0 := by unfold rd; simp
theorem refcheck (k : Nat) (a n : Int) : marquetryref15_Check.f (k + 1) a n = stream_check.f a n := by
  unfold marquetryref15_Check.f stream_check.f
  rw [marquetryref15_Check.j0, marquetryref15_Check.j0]
  by_cases h1 : a < 1
  · rw [if_pos h1, if_pos rfl, if_neg (by omega), if_pos h1]
  · rw [if_neg h1, if_neg h1]
    by_cases h2 : a > 64
    · rw [if_pos h2, decide_eq_true h2, if_pos rfl]
    · rw [if_neg h2, decide_eq_false h2, if_neg (by simp)]
theorem take_next (L : List Int) (p : Nat) (h : p < L.length) : L.take (p + 1) = L.take p ++ [L.getD p 0] := by
  rw [List.take_succ_eq_append_getElem h, List.getD_eq_getElem?_getD, List.getElem?_eq_getElem h]
  rfl
theorem place_row {n j k : Nat} (w : Nat) (hj : j < n) : place n w (k * n + j) = j * w + k := by
  unfold place
  have e1 : (k * n + j) % n = j := by rw [Nat.add_comm, Nat.add_mul_mod_self_right, Nat.mod_eq_of_lt hj]
  have e2 : (k * n + j) / n = k := by rw [Nat.add_comm, Nat.add_mul_div_right _ _ (by omega), Nat.div_eq_of_lt hj, Nat.zero_add]
  rw [e1, e2]
theorem pos_lt {n w j k : Nat} (hj : j < n) (hk : k < w) : j * w + k < w * n := by
  have : (j + 1) * w ≤ n * w := Nat.mul_le_mul_right _ hj
  rw [Nat.add_mul, Nat.one_mul, Nat.mul_comm n w] at this
  omega
section
variable (w n : Nat) (l : List Int) (hl : l.length = w * n) (hN : w * n ≤ 10000) (hw0 : 1 ≤ w) (hw1 : w ≤ 64)
include hl hN hw0 hw1
theorem w_inner (k : Nat) (hk : k < w) (d : Nat) : ∀ j, j + d = n → ∀ K, marquetryref15_Write.l1 (K + d + 1) w l ((laid w l).take (k * n + j)) k ((j * w + k : Nat) : Int) = marquetryref15_Write.l0 K w l ((laid w l).take ((k + 1) * n)) ((k + 1 : Nat) : Int) := by
  have hdiv : l.length / w = n := by rw [hl, Nat.mul_div_cancel_left _ (by omega)]
  induction d with
  | zero =>
    intro j hj K
    have hjn : j = n := by omega
    subst hjn
    have hge : ¬ (((j * w + k : Nat) : Int) < (l.length : Int)) := by rw [hl, Nat.mul_comm w j]; omega
    rw [marquetryref15_Write.l1, if_neg hge, show ((k : Int) + 1) = ((k + 1 : Nat) : Int) by omega, wrap_nat _ (by omega), show k * j + j = (k + 1) * j by rw [Nat.add_mul, Nat.one_mul]]
  | succ d ih =>
    intro j hj K
    have hjn : j < n := by omega
    have hp := pos_lt (w := w) hjn hk
    have hp2 : k * n + j < w * n := by have := pos_lt (n := w) (w := n) hk hjn; rw [Nat.mul_comm n w] at this; exact this
    have hmul : (j + 1) * w + k = j * w + k + w := by rw [Nat.add_mul, Nat.one_mul]; omega
    have htl : ((laid w l).take (k * n + j)).length < 140737488355328 := by rw [List.length_take, laid_len]; omega
    have hel : rd l ((j * w + k : Nat) : Int) = (laid w l).getD (k * n + j) 0 := by
      rw [rd_getD, laid_at _ _ _ (by omega), hdiv, place_row w hjn]
    rw [show K + (d + 1) + 1 = (K + d + 1) + 1 by omega, marquetryref15_Write.l1, if_pos (by omega), if_pos (by omega), if_pos htl, hel, ← take_next _ _ (by rw [laid_len]; omega)]
    have := ih (j + 1) (by omega) K
    rw [hmul] at this
    rw [show (((j * w + k : Nat) : Int) + (w : Int)) = ((j * w + k + w : Nat) : Int) by omega, wrap_nat _ (by omega)]
    exact this
theorem w_outer (d : Nat) : ∀ k, k + d = w → ∀ K, marquetryref15_Write.l0 (K + d * (n + 2) + 1) w l ((laid w l).take (k * n)) (k : Int) = some (laid w l, 0) := by
  induction d with
  | zero =>
    intro k hk K
    have hkw : k = w := by omega
    subst hkw
    rw [marquetryref15_Write.l0, if_neg (by omega), List.take_of_length_le (by rw [laid_len]; omega)]
  | succ d ih =>
    intro k hk K
    have e : K + (d + 1) * (n + 2) + 1 = ((K + d * (n + 2) + 1) + n + 1) + 1 := by rw [Nat.add_mul, Nat.one_mul]; omega
    rw [e, marquetryref15_Write.l0, if_pos (by omega)]
    have h1 := w_inner w n l hl hN hw0 hw1 k (by omega) n 0 (by omega) (K + d * (n + 2) + 1)
    simp only [Nat.add_zero, Nat.zero_mul, Nat.zero_add] at h1
    rw [h1]
    exact ih (k + 1) (by omega) K
theorem r_inner (i : Nat) (hi : i < n) (d : Nat) : ∀ j, j + d = w → ∀ K, marquetryref15_Read.l1 (K + d + 1) w l n ((back w l).take (i * w + j)) i (j : Int) = marquetryref15_Read.l0 K w l n ((back w l).take ((i + 1) * w)) ((i + 1 : Nat) : Int) := by
  have hdiv : l.length / w = n := by rw [hl, Nat.mul_div_cancel_left _ (by omega)]
  have hin : i + 1 ≤ w * n := Nat.le_trans hi (Nat.le_mul_of_pos_left _ hw0)
  induction d with
  | zero =>
    intro j hj K
    have hjn : j = w := by omega
    subst hjn
    rw [marquetryref15_Read.l1, if_neg (by omega), show ((i : Int) + 1) = ((i + 1 : Nat) : Int) by omega, wrap_nat _ (by omega), show i * j + j = (i + 1) * j by rw [Nat.add_mul, Nat.one_mul]]
  | succ d ih =>
    intro j hj K
    have hjn : j < w := by omega
    have hp := pos_lt (w := n) (n := w) hjn hi
    rw [Nat.mul_comm n w] at hp
    have hp2 := pos_lt (n := n) (w := w) hi hjn
    have htl : ((back w l).take (i * w + j)).length < 140737488355328 := by rw [List.length_take, back_len]; omega
    have hel : rd l ((j * n + i : Nat) : Int) = (back w l).getD (i * w + j) 0 := by
      rw [rd_getD, back_at _ _ _ (by omega), hdiv, place_row n hjn]
    have hix : wrap64 (wrap64 ((j : Int) * (n : Int)) + (i : Int)) = ((j * n + i : Nat) : Int) := by
      have hs : j * n + i ≤ 4611686018427387904 := Nat.le_of_lt (Nat.lt_of_lt_of_le hp (Nat.le_trans hN (by decide)))
      rw [← Int.natCast_mul, wrap_nat (j * n) (Nat.le_trans (Nat.le_add_right _ _) hs), ← Int.natCast_add, wrap_nat _ hs]
    have hj1 : (j : Int) < (w : Int) := by omega
    have hj2 : (0 : Int) ≤ ((j * n + i : Nat) : Int) := Int.natCast_nonneg _
    have hj3 : ((j * n + i : Nat) : Int) < (l.length : Int) := by rw [hl]; exact Int.ofNat_lt.mpr hp
    have htk := take_next (back w l) (i * w + j) (by rw [back_len]; omega)
    rw [show K + (d + 1) + 1 = (K + d + 1) + 1 by omega, marquetryref15_Read.l1, if_pos hj1, hix, if_pos hj2, if_pos hj3, if_pos htl, hel, ← htk]
    have := ih (j + 1) (by omega) K
    rw [show ((j : Int) + 1) = ((j + 1 : Nat) : Int) by omega, wrap_nat _ (by omega)]
    exact this
theorem r_outer (d : Nat) : ∀ i, i + d = n → ∀ K, marquetryref15_Read.l0 (K + d * (w + 2) + 1) w l n ((back w l).take (i * w)) (i : Int) = some (back w l, 0) := by
  induction d with
  | zero =>
    intro i hk K
    have hkw : i = n := by omega
    subst hkw
    rw [marquetryref15_Read.l0, if_neg (by omega), List.take_of_length_le (by rw [back_len, hl, Nat.mul_comm]; omega)]
  | succ d ih =>
    intro i hk K
    have e : K + (d + 1) * (w + 2) + 1 = ((K + d * (w + 2) + 1) + w + 1) + 1 := by rw [Nat.add_mul, Nat.one_mul]; omega
    rw [e, marquetryref15_Read.l0, if_pos (by omega)]
    have h1 := r_inner w n l hl hN hw0 hw1 i (by omega) w 0 (by omega) (K + d * (w + 2) + 1)
    simp only [Nat.add_zero] at h1
    have h2 := h1.trans (ih (i + 1) (by omega) K)
    exact h2
end
theorem wrote_ref (a : Int) (l : List Int) (hl : l.length ≤ 10000) : ∃ k r, stream_Write.f a l = some r ∧ marquetryref15_Write.f k a l = some r := by
  obtain ⟨e, he⟩ := check_some a (l.length : Int)
  by_cases h0 : e = 0
  · subst h0
    obtain ⟨b0, b1, b2, b3⟩ := check_zero (by omega) he
    simp only [Int.toNat_natCast] at b3
    obtain ⟨w, rfl⟩ := Int.eq_ofNat_of_zero_le (show 0 ≤ a by omega)
    simp only [Int.toNat_natCast] at b3
    have hwn := (whole b3).symm
    have ho := w_outer w (l.length / w) l hwn (by omega) (by omega) (by omega) w 0 (by omega) 0
    rw [Nat.zero_mul, List.take_zero] at ho
    refine ⟨0 + w * (l.length / w + 2) + 1, _, write_ok he, ?_⟩
    unfold marquetryref15_Write.f
    rw [refcheck, bind_of he, if_pos rfl]
    exact ho
  · refine ⟨1, _, write_no he h0, ?_⟩
    unfold marquetryref15_Write.f
    rw [refcheck, bind_of he, if_neg h0]
theorem read_ref (a : Int) (l : List Int) (hl : l.length ≤ 10000) : ∃ k r, stream_Read.f a l = some r ∧ marquetryref15_Read.f k a l = some r := by
  obtain ⟨e, he⟩ := check_some a (l.length : Int)
  by_cases h0 : e = 0
  · subst h0
    obtain ⟨b0, b1, b2, b3⟩ := check_zero (by omega) he
    simp only [Int.toNat_natCast] at b3
    obtain ⟨w, rfl⟩ := Int.eq_ofNat_of_zero_le (show 0 ≤ a by omega)
    simp only [Int.toNat_natCast] at b3
    have hwn := (whole b3).symm
    have hq : wrap64 ((l.length : Int) / (w : Int)) = ((l.length / w : Nat) : Int) := by
      have e : ((l.length : Int) / (w : Int)) = ((l.length / w : Nat) : Int) := by rfl
      rw [e]
      exact wrap_nat _ (Nat.le_trans (Nat.div_le_self _ _) (by omega))
    have ho := r_outer w (l.length / w) l hwn (by omega) (by omega) (by omega) (l.length / w) 0 (by omega) 0
    rw [Nat.zero_mul, List.take_zero] at ho
    refine ⟨0 + (l.length / w) * (w + 2) + 1, _, read_ok he, ?_⟩
    unfold marquetryref15_Read.f
    rw [refcheck, bind_of he, if_pos rfl, if_neg (by omega), hq]
    exact ho
  · refine ⟨1, _, read_no he h0, ?_⟩
    unfold marquetryref15_Read.f
    rw [refcheck, bind_of he, if_neg h0]
end Go.Proofs.Ytkpmjijhgmmjoaa.streamRef
