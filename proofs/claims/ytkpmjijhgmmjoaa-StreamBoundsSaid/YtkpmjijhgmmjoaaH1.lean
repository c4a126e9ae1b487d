-- Laid by this session's hprint.py, out of the kit's print.py and texts of the session. Not trusted: Lean checks it.
import Derived.Test.YtkpmjijhgmmjoaaH0
namespace Go.Proofs.Ytkpmjijhgmmjoaa.H
open Go.RowKit Go.Proofs.YtkpmjijhgmmjoaaW.PrintWords Go.Proofs.YtkpmjijhgmmjoaaW.PrintLast Go.Proofs.YtkpmjijhgmmjoaaW.PrintMore
attribute [local go_sem] max2_int min2_int max_two min_two max_three min_three max_four min_four   -- for this text's walks alone
set_option linter.unusedVariables false
set_option linter.unusedSimpArgs false

/-! ### stream_check: function 18 -/
def stream_check.f (a0 : Int) (a1 : Int) : Option (Int) := if a0 > 64 then (some 2) else (if a0 < 1 then (some 2) else (if a1 > 1048576 then (some 3) else (if a0 = 0 then (none) else (if (Int.tmod a1 a0) = 0 then (some 0) else (some 8)))))
set_option maxHeartbeats 8000000 in
set_option maxRecDepth 100000 in
theorem stream_check.calls (a0 : Int) (a1 : Int) (r : Int) (w : World) (h : stream_check.f a0 a1 = some r) :
    Calls Try.prog 18 #[.int .i64 a0, .int .i64 a1] w fun e w' => e = .returned (.int .i64 r) ∧ Drawn0 w w' := by
  have H : (if a0 > 64 then (some 2) else (if a0 < 1 then (some 2) else (if a1 > 1048576 then (some 3) else (if a0 = 0 then (none) else (if (Int.tmod a1 a0) = 0 then (some 0) else (some 8)))))) = some r := h
  clear h
  by_cases c3 : a0 > 64
  · rw [if_pos c3] at H
    have c3b0 : decide (64 < a0) = true := decide_eq_true c3
    clear c3
    obtain rfl := Option.some.inj H
    go_enter Try.func18, Try.ntmps18
    go_wp2
    go_ret
    exact ⟨by first | rfl | (simp; done) | (simp [*]; done), by repeat (first | exact Drawn0.refl _ | apply Drawn0.step)⟩
  · rw [if_neg c3] at H
    have c3b0 : decide (64 < a0) = false := decide_eq_false c3
    clear c3
    by_cases c4 : a0 < 1
    · rw [if_pos c4] at H
      have c4b0 : decide (a0 < 1) = true := decide_eq_true c4
      clear c4
      obtain rfl := Option.some.inj H
      go_enter Try.func18, Try.ntmps18
      go_wp2
      go_ret
      exact ⟨by first | rfl | (simp; done) | (simp [*]; done), by repeat (first | exact Drawn0.refl _ | apply Drawn0.step)⟩
    · rw [if_neg c4] at H
      have c4b0 : decide (a0 < 1) = false := decide_eq_false c4
      clear c4
      by_cases c5 : a1 > 1048576
      · rw [if_pos c5] at H
        have c5b0 : decide (1048576 < a1) = true := decide_eq_true c5
        clear c5
        obtain rfl := Option.some.inj H
        go_enter Try.func18, Try.ntmps18
        go_wp2
        go_ret
        exact ⟨by first | rfl | (simp; done) | (simp [*]; done), by repeat (first | exact Drawn0.refl _ | apply Drawn0.step)⟩
      · rw [if_neg c5] at H
        have c5b0 : decide (1048576 < a1) = false := decide_eq_false c5
        clear c5
        by_cases c6 : a0 = 0
        · rw [if_pos c6] at H
          exact absurd H (by simp)
        · rw [if_neg c6] at H
          have c6b0 : (a0 == 0) = false := beq_eq_false_iff_ne.mpr c6
          have c6b1 : (a0 != 0) = true := bne_iff_ne.mpr c6
          by_cases c7 : (Int.tmod a1 a0) = 0
          · rw [if_pos c7] at H
            have c7b0 : ((Int.tmod a1 a0) == 0) = true := beq_iff_eq.mpr c7
            have c7b1 : ((Int.tmod a1 a0) != 0) = false := bne_eq_false_iff_eq.mpr c7
            clear c7
            obtain rfl := Option.some.inj H
            go_enter Try.func18, Try.ntmps18
            go_wp2
            go_ret
            exact ⟨by first | rfl | (simp; done) | (simp [*]; done), by repeat (first | exact Drawn0.refl _ | apply Drawn0.step)⟩
          · rw [if_neg c7] at H
            have c7b0 : ((Int.tmod a1 a0) == 0) = false := beq_eq_false_iff_ne.mpr c7
            have c7b1 : ((Int.tmod a1 a0) != 0) = true := bne_iff_ne.mpr c7
            obtain rfl := Option.some.inj H
            go_enter Try.func18, Try.ntmps18
            go_wp2
            go_ret
            exact ⟨by first | rfl | (simp; done) | (simp [*]; done), by repeat (first | exact Drawn0.refl _ | apply Drawn0.step)⟩

end Go.Proofs.Ytkpmjijhgmmjoaa.H
