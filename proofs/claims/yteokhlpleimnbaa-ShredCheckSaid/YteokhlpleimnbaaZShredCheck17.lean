/- Texts of the claim, packed: H46. -/
import Derived.Lib.Hide
import Derived.Test.YteokhlpleimnbaaZShredCheck5
import Derived.Test.YteokhlpleimnbaaZShredCheck10
import Derived.Test.YteokhlpleimnbaaZShredCheck14
section
-- Laid by this session's hprint.py, out of the kit's print.py and texts of the session. Not trusted: Lean checks it.
namespace Go.Proofs.Yteokhlpleimnbaa.H
open Go.RowKit Go.Proofs.YteokhlpleimnbaaW.PrintWords Go.Proofs.YteokhlpleimnbaaW.PrintLast Go.Proofs.YteokhlpleimnbaaW.PrintMore
attribute [local go_sem] max2_int min2_int max_two min_two max_three min_three max_four min_four   -- for this text's walks alone
set_option linter.unusedVariables false
set_option linter.unusedSimpArgs false

-- OVPART Derived.Lib.Hide
/-! ### shred_Same: function 16 -/
theorem eq_loop_ (l0 l1 : List Int) (hl : l0.length = l1.length) (hb : l0.length ≤ 1000000) : ∀ n i : Nat, i ≤ l0.length → l0.length - i ≤ n → (∀ j, j < i → l0[j]? = l1[j]?) → slices_Equal_int_int.l0 (n + 1) l0 l1 (l0.length : Int) (i : Int) = some (decide (l0 = l1))
  | n, i, hi, hn, hp => by
    unfold slices_Equal_int_int.l0
    by_cases h : i < l0.length
    · have e0 : rd l0 (i : Int) = l0[i] := by unfold rd; simp [List.getD, h]
      have e1 : rd l1 (i : Int) = l1[i] := by unfold rd; simp [List.getD, show i < l1.length by omega]
      have hw : wrap64 ((i : Int) + 1) = ((i + 1 : Nat) : Int) := by unfold wrap64; omega
      rw [if_pos (by omega), if_pos (by omega), if_pos (by omega), if_pos (by omega), hw]
      by_cases he : rd l0 (i : Int) = rd l1 (i : Int)
      · rw [if_pos he]
        cases n with
        | zero => omega
        | succ n =>
          refine eq_loop_ l0 l1 hl hb n (i + 1) (by omega) (by omega) (fun j hj => ?_)
          rcases Nat.lt_succ_iff_lt_or_eq.mp hj with h1 | rfl
          · exact hp j h1
          · rw [e0, e1] at he
            rw [List.getElem?_eq_getElem h, List.getElem?_eq_getElem (by omega), he]
      · rw [if_neg he, decide_eq_false (fun e => he (by rw [e]))]
    · rw [if_neg (by omega), decide_eq_true]
      apply List.ext_getElem?
      intro j
      by_cases hj : j < i
      · exact hp j hj
      · rw [List.getElem?_eq_none (by omega), List.getElem?_eq_none (by omega)]
theorem equal_ints_ (l0 l1 : List Int) (hb : l0.length ≤ 1000000) : slices_Equal_int_int.f (l0.length + 1) l0 l1 = some (decide (l0 = l1)) := by
  unfold slices_Equal_int_int.f
  by_cases hl : l0.length = l1.length
  · rw [if_pos (by omega)]
    exact eq_loop_ l0 l1 hl hb l0.length 0 (by omega) (by omega) (fun j hj => absurd hj (by omega))
  · rw [if_neg (by omega), decide_eq_false (fun e => hl (by rw [e]))]
def shred_Same.f (l0_0 l0_1 : List Int) (l0_2 : List S58) (l1_0 l1_1 : List Int) (l1_2 : List S58) : Option Bool :=
  if l0_0.length ≤ 1000000 ∧ l0_1.length ≤ 1000000 ∧ l0_2.length ≤ 1000000 then some (decide (l0_0 = l1_0) && decide (l0_1 = l1_1) && eqAll l0_2 l1_2) else none
set_option maxHeartbeats 8000000 in
set_option maxRecDepth 100000 in
theorem shred_Same.calls (A0_0 : Option Addr) (c0_0 : Nat) (l0_0 : List Int) (A0_1 : Option Addr) (c0_1 : Nat) (l0_1 : List Int) (A0_2 : Option Addr) (c0_2 : Nat) (l0_2 : List (S58)) (A1_0 : Option Addr) (c1_0 : Nat) (l1_0 : List Int) (A1_1 : Option Addr) (c1_1 : Nat) (l1_1 : List Int) (A1_2 : Option Addr) (c1_2 : Nat) (l1_2 : List (S58)) (r : Bool) (w : World) (hr0_0 : Kd.C (Kd.int .i64) w A0_0 l0_0.length l0_0) (hc0_0 : l0_0.length ≤ c0_0) (hr0_1 : Kd.C (Kd.int .i64) w A0_1 l0_1.length l0_1) (hc0_1 : l0_1.length ≤ c0_1) (hr0_2 : Kd.C k58 w A0_2 l0_2.length l0_2) (hc0_2 : l0_2.length ≤ c0_2) (hr1_0 : Kd.C (Kd.int .i64) w A1_0 l1_0.length l1_0) (hc1_0 : l1_0.length ≤ c1_0) (hr1_1 : Kd.C (Kd.int .i64) w A1_1 l1_1.length l1_1) (hc1_1 : l1_1.length ≤ c1_1) (hr1_2 : Kd.C k58 w A1_2 l1_2.length l1_2) (hc1_2 : l1_2.length ≤ c1_2) (h : shred_Same.f l0_0 l0_1 l0_2 l1_0 l1_1 l1_2 = some r) :
    Calls Try.prog 16 #[.agg #[.slice A0_0 l0_0.length c0_0, .slice A0_1 l0_1.length c0_1, .slice A0_2 l0_2.length c0_2], .agg #[.slice A1_0 l1_0.length c1_0, .slice A1_1 l1_1.length c1_1, .slice A1_2 l1_2.length c1_2]] w fun e w' => e = .returned (.bool r) ∧ Below w.heap.size w w' := by
  unfold shred_Same.f at h
  split at h
  case isFalse => cases h
  case isTrue hlen =>
  obtain rfl := Option.some.inj h
  clear h
  have E0 := Lib.hid (equal_ints_ l0_0 l1_0 hlen.1)
  have E1 := Lib.hid (equal_ints_ l0_1 l1_1 hlen.2.1)
  have E2 := Lib.hid (show datum_SameAll.f l0_2 l1_2 = some (eqAll l0_2 l1_2) by unfold datum_SameAll.f; rw [if_pos hlen.2.2])
  have hS := Two_.start w (.slice A0_0 l0_0.length c0_0) (.slice A0_1 l0_1.length c0_1) (.slice A0_2 l0_2.length c0_2) (.slice A1_0 l1_0.length c1_0) (.slice A1_1 l1_1.length c1_1) (.slice A1_2 l1_2.length c1_2)
  clear hlen
  generalize decide (l0_0 = l1_0) = r0 at *
  generalize decide (l0_1 = l1_1) = r1 at *
  generalize eqAll l0_2 l1_2 = r2 at *
  go_enter Try.func16, Try.ntmps16
  go_wp2_with fail
  refine (slices_Equal_int_int.calls _ A0_0 c0_0 l0_0 A1_0 c1_0 l1_0 r0 _ (Kd.C_below hr0_0 hS.below) hc0_0 (Kd.C_below hr1_0 hS.below) hc1_0 E0.out).mono ?_
  rintro e w1 ⟨rfl, hD⟩
  have hS1 := hS.next hD.below
  clear hD hS
  obtain ⟨q0, q1, q2, q3, q4, q5⟩ := hS1.cells
  cases r0
  · go_wp2_with fail
    go_ret
    exact ⟨rfl, hS1.below⟩
  · go_wp2_with fail
    refine (slices_Equal_int_int.calls _ A0_1 c0_1 l0_1 A1_1 c1_1 l1_1 r1 _ (Kd.C_below hr0_1 hS1.below) hc0_1 (Kd.C_below hr1_1 hS1.below) hc1_1 E1.out).mono ?_
    rintro e w2 ⟨rfl, hD⟩
    have hS2 := hS1.next hD.below
    clear hD hS1 q0 q1 q2 q3 q4 q5
    obtain ⟨q0, q1, q2, q3, q4, q5⟩ := hS2.cells
    cases r1
    · go_wp2_with fail
      go_ret
      exact ⟨rfl, hS2.below⟩
    · go_wp2_with fail
      refine (datum_SameAll.calls A0_2 c0_2 l0_2 A1_2 c1_2 l1_2 r2 _ (Kd.C_below hr0_2 hS2.below) hc0_2 (Kd.C_below hr1_2 hS2.below) hc1_2 E2.out).mono ?_
      rintro e w3 ⟨rfl, hB⟩
      have hS3 := hS2.next hB
      clear hB hS2 q0 q1 q2 q3 q4 q5
      go_wp2_with fail
      go_ret
      exact ⟨by simp, hS3.below⟩


end Go.Proofs.Yteokhlpleimnbaa.H
end
