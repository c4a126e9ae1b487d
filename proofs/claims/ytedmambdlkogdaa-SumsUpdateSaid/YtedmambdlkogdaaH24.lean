-- Laid by this session's hprint.py, out of the kit's print.py and texts of the session. Not trusted: Lean checks it.
import Derived.Test.YtedmambdlkogdaaH0
import Derived.Test.YtedmambdlkogdaaH3
import Derived.Test.YtedmambdlkogdaaH8
import Derived.Test.YtedmambdlkogdaaH17
import Derived.Test.YtedmambdlkogdaaH20
import Derived.Test.YtedmambdlkogdaaH22
import Derived.Lib.Hide
namespace Go.Proofs.Ytedmambdlkogdaa.H
open Go.RowKit Go.Proofs.YtedmambdlkogdaaW.PrintWords Go.Proofs.YtedmambdlkogdaaW.PrintLast Go.Proofs.YtedmambdlkogdaaW.PrintMore
attribute [local go_sem] max2_int min2_int max_two min_two max_three min_three max_four min_four   -- for this text's walks alone
set_option linter.unusedVariables false
set_option linter.unusedSimpArgs false

-- OVPART Derived.Lib.Hide
/-! ### marquetrylaw02_SumsUpdate: function 4 -/
def marquetrylaw02_SumsUpdate.f (k : Nat) (a0 : Int) (l1 : List Int) : Option Bool := if (l1.length : Int) > 10000 then some true else (sums_Update.f a0 l1).bind fun a => (marquetryref02_Update.f k a0 l1).bind fun b => if a = b then some true else none
set_option maxRecDepth 100000 in
set_option maxHeartbeats 4000000 in
theorem marquetrylaw02_SumsUpdate.calls (k : Nat) (a0 : Int) (A1 : Option Addr) (c1 : Nat) (l1 : List Int) (r : Bool) (w : World) (hr1 : Kd.C (Kd.int .u8) w A1 l1.length l1) (hc1 : l1.length ≤ c1) (h : marquetrylaw02_SumsUpdate.f k a0 l1 = some r) :
    Calls Try.prog 4 #[.int .u32 a0, .slice A1 l1.length c1] w fun e w' => e = .returned (.bool r) ∧ Below w.heap.size w w' := by
  unfold marquetrylaw02_SumsUpdate.f at h
  by_cases hb : (l1.length : Int) > 10000
  · rw [if_pos hb] at h
    obtain rfl := Option.some.inj h
    clear h
    have hb0 : decide (10000 < (l1.length : Int)) = true := decide_eq_true hb
    have hb1 : decide (10000 < l1.length) = true := decide_eq_true (by omega)
    go_enter Try.func4, Try.ntmps4
    go_wp2_with fail
    refine (marquetrylaw02_works.calls true _ rfl).mono ?_
    rintro e w1 ⟨rfl, hB⟩
    go_wp2_with fail
    go_ret
    exact ⟨rfl, hB⟩
  · rw [if_neg hb] at h
    obtain ⟨a, ha, h⟩ := Option.bind_eq_some_iff.mp h
    obtain ⟨b, hb2, h⟩ := Option.bind_eq_some_iff.mp h
    split at h
    case isFalse => simp at h
    case isTrue hab =>
    subst hab
    obtain rfl := Option.some.inj h
    clear h
    have hb0 : decide (10000 < (l1.length : Int)) = false := decide_eq_false hb
    have hb1 : decide (10000 < l1.length) = false := decide_eq_false (by omega)
    have hlen : l1.length ≤ 10000 := by omega
    have HA := Lib.hid ha
    have HA2 := Lib.hid hb2
    clear ha hb2
    go_enter Try.func4, Try.ntmps4
    go_wp2_with fail
    refine (lent_full A1 c1 l1 w hr1 hc1 (by omega)).mono ?_
    rintro e w1 ⟨g, c, rfl, hR1, hB1⟩
    have hm1 := (Kd.R_reads' hR1).2.2
    have hcc : l1.length + 1 ≤ c := by have := (Kd.R_reads' hR1).2.1; simpa using this
    have ht1 := Kd.C_take (m := l1.length) hm1 (by simp)
    rw [List.take_left] at ht1
    have hr1b := Kd.C_below hr1 hB1
    clear hR1
    go_wp2_with fail
    refine (sums_Update.calls a0 (some ⟨g, 0, none⟩) c l1 a w1 ht1 (by omega) HA.out).mono ?_
    rintro e w2 ⟨rfl, hB2⟩
    have hm2 := Kd.C_below hm1 hB2
    have hr2 := Kd.C_below hr1b hB2
    have hB02 : Below w.heap.size w w2 := below_step hB1 hB2
    clear hB1 hB2 hm1 hr1b ht1
    go_wp2_with fail
    refine (marquetryref02_Update.calls k a0 A1 c1 l1 a w2 hr2 hc1 HA2.out).mono ?_
    rintro e w3 ⟨rfl, hD3⟩
    have hm3 := Kd.C_below hm2 hD3.below
    have hr3 := Kd.C_below hr2 hD3.below
    have hB03 : Below w.heap.size w w3 := below_step hB02 hD3.below
    clear hB02 hm2 hr2 hD3
    go_wp2_with fail
    refine (kept_full g c l1 A1 c1 w3 hm3 hcc hr3 (by omega)).mono ?_
    rintro e w4 ⟨rfl, hD4⟩
    have hB04 : Below w.heap.size w w4 := below_step hB03 hD4.below
    clear hB03 hm3 hr3 hD4
    go_wp2_with fail
    refine (marquetrylaw02_works.calls true _ rfl).mono ?_
    rintro e w5 ⟨rfl, hB5⟩
    have hB05 : Below w.heap.size w w5 := below_step hB04 hB5
    go_wp2_with fail
    go_ret
    exact ⟨rfl, hB05⟩


end Go.Proofs.Ytedmambdlkogdaa.H
