/- Each byte stands where its place says, the width 1 moves nothing, and the width that is the number of values undoes it (StreamMoves), at every width and every byte string that the guard lets in. -/
import Derived.Test.YtkpmjijhgmmjoaaSayStreamMoves
import Derived.Test.YtkpmjijhgmmjoaaPureStreamBack
import Derived.Test.YtkpmjijhgmmjoaaPureStreamPlaces
namespace Go.Proofs.Ytkpmjijhgmmjoaa.streamMoves
open Go.RowKit Go.Proofs.YtkpmjijhgmmjoaaW.PrintWords Go.Proofs.YtkpmjijhgmmjoaaW.PrintLast Go.Proofs.YtkpmjijhgmmjoaaW.PrintMore Go.Proofs.Ytkpmjijhgmmjoaa.H Go.Proofs.YtkpmjijhgmmjoaaO Go.Proofs.YtkpmjijhgmmjoaaP Go.Proofs.Ytkpmjijhgmmjoaa.streamBack Go.Proofs.Ytkpmjijhgmmjoaa.streamPlaces
set_option linter.unusedVariables false
theorem check_one {n : Int} (h0 : 0 ≤ n) (h1 : n ≤ 1048576) : stream_check.f 1 n = some 0 := by
  unfold stream_check.f
  rw [if_neg (by omega), if_neg (by omega), if_neg (by omega), if_neg (by omega), if_pos (by simp)]
theorem check_mk {a n : Int} (h0 : 1 ≤ a) (h1 : a ≤ 64) (h2 : n ≤ 1048576) (h3 : Int.tmod n a = 0) : stream_check.f a n = some 0 := by
  unfold stream_check.f
  rw [if_neg (by omega), if_neg (by omega), if_neg (by omega), if_neg (by omega), if_pos h3]
theorem wrap_small {x : Int} (h0 : 0 ≤ x) (h1 : x ≤ 4611686018427387904) : wrap64 x = x := by
  unfold wrap64
  omega
theorem wrap_nat (n : Nat) (h : n ≤ 4611686018427387904) : wrap64 (n : Int) = (n : Int) := wrap_small (by omega) (by omega)
theorem place_some (w n i : Nat) (hw0 : 1 ≤ w) (hw1 : w ≤ 64) (hn : w * n ≤ 3000) (hi : i < w * n) : stream_Place.f (w : Int) (n : Int) (i : Int) = some (((place w n i : Nat) : Int), true) := by
  have hp := place_lt hi
  have hn1 : n ≤ w * n := Nat.le_mul_of_pos_left _ hw0
  have hmul : ((w : Int) * (n : Int)) = ((w * n : Nat) : Int) := by rw [Int.natCast_mul]
  have hdiv : wrap64 (Int.tdiv 1048576 (w : Int)) = ((1048576 / w : Nat) : Int) := by
    rw [Int.tdiv_eq_ediv_of_nonneg (by omega)]
    have e : ((1048576 : Int) / (w : Int)) = ((1048576 / w : Nat) : Int) := by rfl
    rw [e]
    exact wrap_nat _ (Nat.le_trans (Nat.div_le_self _ _) (by omega))
  have hge : 16384 ≤ 1048576 / w := by
    rw [Nat.le_div_iff_mul_le (by omega)]
    omega
  have hm1 : i % w < w := Nat.mod_lt _ (by omega)
  have e1 : Int.tmod (i : Int) (w : Int) = ((i % w : Nat) : Int) := by rw [Int.tmod_eq_emod_of_nonneg (by omega)]; rfl
  have e2 : Int.tdiv (i : Int) (w : Int) = ((i / w : Nat) : Int) := by rw [Int.tdiv_eq_ediv_of_nonneg (by omega)]; rfl
  have hd2 : i / w ≤ i := Nat.div_le_self i w
  unfold place at hp
  have hsum : i % w * n + i / w ≤ 4611686018427387904 := Nat.le_of_lt (Nat.lt_of_lt_of_le hp (Nat.le_trans hn (by decide)))
  have e3 : ((i % w : Nat) : Int) * (n : Int) = ((i % w * n : Nat) : Int) := by rw [Int.natCast_mul]
  unfold stream_Place.f
  rw [bind_of (check_good (by omega) (by omega)), if_pos rfl, if_neg (by omega), if_neg (by omega), hdiv, if_neg (by omega), if_neg (by omega), hmul, wrap_small (by omega) (by omega), if_neg (by omega), e1, e2, e3]
  rw [wrap_nat (i % w * n) (Nat.le_trans (Nat.le_add_right _ _) hsum), wrap_nat (i / w) (by omega), ← Int.natCast_add, wrap_nat _ hsum]
  unfold place
  rfl
theorem rd_getD (l : List Int) (i : Nat) : rd l (i : Int) = l.getD i 0 := by unfold rd; simp
theorem loop_ (w n : Nat) (l : List Int) (hw0 : 1 ≤ w) (hw1 : w ≤ 64) (hl : l.length = w * n) (hn : w * n ≤ 3000) (d : Nat) : ∀ (k i : Nat), i + d = l.length → d < k → marquetrylaw15_StreamMoves.l0 (k + 1) w l (laid w l) n i = some true := by
  have hdiv : l.length / w = n := by rw [hl, Nat.mul_div_cancel_left _ (by omega)]
  have hmod : l.length % w = 0 := by rw [hl, Nat.mul_mod_right]
  induction d with
  | zero =>
    intro k i hi hk
    obtain ⟨k, rfl⟩ : ∃ m, k = m + 1 := ⟨k - 1, by omega⟩
    rw [marquetrylaw15_StreamMoves.l0, if_neg (by omega)]
    by_cases h1 : (n : Int) ≥ 1
    · rw [if_pos h1, marquetrylaw15_StreamMoves.j3]
      by_cases h2 : (n : Int) ≤ 64
      · have hm : Int.tmod ((laid w l).length : Int) (n : Int) = 0 := by
          rw [laid_len, hl, Int.natCast_mul, Int.tmod_eq_emod_of_nonneg (by rw [← Int.natCast_mul]; omega), Int.mul_emod_left]
        have hc := check_mk (a := (n : Int)) (n := ((laid w l).length : Int)) h1 h2 (by rw [laid_len]; omega) hm
        have hll := laid_laid w l hmod (by omega)
        rw [hdiv] at hll
        have hwr := write_ok hc
        rw [Int.toNat_natCast, hll] at hwr
        rw [decide_eq_true h2, if_pos rfl, bind_of hwr, bind_of (num_some _), if_pos rfl, if_pos rfl, bind_of works_some]
      · rw [decide_eq_false h2, if_neg (by simp), bind_of works_some]
    · rw [if_neg h1, marquetrylaw15_StreamMoves.j3, if_neg (by simp), bind_of works_some]
  | succ d ih =>
    intro k i hi hk
    obtain ⟨k, rfl⟩ : ∃ m, k = m + 1 := ⟨k - 1, by omega⟩
    have hi2 : i < w * n := by omega
    have hp := place_lt hi2
    have hlp : rd (laid w l) ((place w n i : Nat) : Int) = rd l (i : Int) := by
      rw [rd_getD, rd_getD, laid_at _ _ _ (by omega), hdiv, place_place hi2]
    rw [marquetrylaw15_StreamMoves.l0, if_pos (by omega), bind_of (place_some w n i hw0 hw1 hn hi2), if_pos rfl, if_neg (by omega), if_neg (by rw [laid_len]; omega), if_pos (by omega), if_pos (by rw [laid_len]; omega), if_pos (by omega), if_pos hlp, wrap_small (by omega) (by omega)]
    have := ih k (i + 1) (by omega) (by omega)
    exact this
theorem pure_ : Pure := by
  intro a l ga ⟨_, hl, gl⟩
  by_cases h1 : (l.length : Int) > 3000
  · refine ⟨0, ?_⟩
    unfold marquetrylaw15_StreamMoves.f
    rw [if_pos h1, bind_of works_some]
  · refine ⟨l.length + 4, ?_⟩
    have hone := write_ok (a := 1) (l := l) (check_one (by omega) (by omega))
    rw [show (1 : Int).toNat = 1 from rfl, laid_one] at hone
    have hne : ((strOfNums l).toList != (strOfNums l).toList) = false := by simp
    unfold marquetrylaw15_StreamMoves.f
    rw [if_neg h1]
    obtain ⟨e, he⟩ := check_some a (l.length : Int)
    by_cases h0 : e = 0
    · subst h0
      obtain ⟨b0, b1, b2, b3⟩ := check_zero (by omega) he
      simp only [Int.toNat_natCast] at b3
      obtain ⟨w, rfl⟩ := Int.eq_ofNat_of_zero_le (show 0 ≤ a by omega)
      simp only [Int.toNat_natCast] at b3
      have hwn := whole b3
      have hq : wrap64 ((l.length : Int) / (w : Int)) = ((l.length / w : Nat) : Int) := by
        have e : ((l.length : Int) / (w : Int)) = ((l.length / w : Nat) : Int) := by rfl
        rw [e]
        exact wrap_nat _ (Nat.le_trans (Nat.div_le_self _ _) (by omega))
      have hlo := loop_ w (l.length / w) l (by omega) (by omega) hwn.symm (by omega) l.length (l.length + 1) 0 (by omega) (by omega)
      rw [bind_of (write_ok he), bind_of hone, bind_of (num_some _), if_pos rfl, marquetrylaw15_StreamMoves.j0]
      dsimp only
      rw [hne, if_neg (by simp), bind_of (num_some _), if_pos rfl, decide_eq_false (by omega), marquetrylaw15_StreamMoves.j1, if_neg (by simp), if_neg (by omega), hq, Int.toNat_natCast]
      exact hlo
    · rw [bind_of (write_no he h0), bind_of hone, bind_of (num_some _), if_pos rfl, marquetrylaw15_StreamMoves.j0]
      dsimp only
      rw [hne, if_neg (by simp), bind_of (num_some _), if_neg h0, marquetrylaw15_StreamMoves.j1, if_pos rfl, bind_of (num_some _), if_neg h0, bind_of works_some]
end Go.Proofs.Ytkpmjijhgmmjoaa.streamMoves
