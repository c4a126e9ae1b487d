-- Laid by this session's hprint.py, out of the kit's print.py and texts of the session. Not trusted: Lean checks it.
import Derived.Test.YtkpmjijhgmmjoaaH0
import Derived.Test.YtkpmjijhgmmjoaaH1
import Derived.Test.YtkpmjijhgmmjoaaH4
import Derived.Test.YtkpmjijhgmmjoaaH5
import Derived.Lib.Hide
import Derived.Test.YtkpmjijhgmmjoaaH4
import Derived.Test.YtkpmjijhgmmjoaaH5
namespace Go.Proofs.Ytkpmjijhgmmjoaa.H
open Go.RowKit Go.Proofs.YtkpmjijhgmmjoaaW.PrintWords Go.Proofs.YtkpmjijhgmmjoaaW.PrintLast Go.Proofs.YtkpmjijhgmmjoaaW.PrintMore
attribute [local go_sem] max2_int min2_int max_two min_two max_three min_three max_four min_four   -- for this text's walks alone
set_option linter.unusedVariables false
set_option linter.unusedSimpArgs false

-- OVPART Derived.Test.YtkpmjijhgmmjoaaH4 Derived.Test.YtkpmjijhgmmjoaaH5 Derived.Lib.Hide
/-! ### stream_Read: function 15 -/
def stream_Read.f (a0 : Int) (l1 : List Int) : Option (List Int × Int) := (stream_check.f a0 (l1.length : Int)).bind fun e => if e = 0 then some (Go.Proofs.YtkpmjijhgmmjoaaP.back a0.toNat l1, 0) else some (([] : List Int), e)
set_option maxRecDepth 100000 in
set_option maxHeartbeats 4000000 in
theorem stream_Read.calls (a0 : Int) (A1 : Option Addr) (c1 : Nat) (l1 : List Int) (r1 : List Int) (r2 : Int) (w : World) (hr1 : Kd.C (Kd.int .u8) w A1 l1.length l1) (hc1 : l1.length ≤ c1) (h : stream_Read.f a0 l1 = some (r1, r2)) :
    Calls Try.prog 15 #[.int .i64 a0, .slice A1 l1.length c1] w fun e w' => ∃ v0_ : Value, e = .returned (.tuple #[v0_, .int .i64 r2]) ∧ Kd.R (Kd.int .u8) 5 w' w.heap.size (fun _ => True) v0_ r1 ∧ Below w.heap.size w w' := by
  unfold stream_Read.f at h
  obtain ⟨t, ht, h⟩ := Option.bind_eq_some_iff.mp h
  by_cases h0 : t = 0
  · subst h0
    rw [if_pos rfl] at h
    simp only [Option.some.injEq, Prod.mk.injEq] at h
    obtain ⟨rfl, rfl⟩ := h
    obtain ⟨b0, b1, b2, b3⟩ := check_zero (by omega) ht
    obtain ⟨m, rfl⟩ := Int.eq_ofNat_of_zero_le (show 0 ≤ a0 by omega)
    simp only [Int.toNat_natCast] at b3 ⊢
    have HT := Lib.hid ht
    have HB3 := Lib.hid b3
    clear ht b3
    by_cases hl : l1.length = 0
    · obtain rfl := List.eq_nil_of_length_eq_zero hl
      clear hl
      go_enter Try.func15, Try.ntmps15
      go_wp2_with fail
      refine (stream_check.calls _ _ _ _ HT.out).mono ?_
      rintro e w1 ⟨rfl, hD⟩
      go_wp2_with fail
      refine (moved_nil _ _ _ _ _).mono ?_
      rintro e w2 ⟨rfl, hB⟩
      go_wp2_with fail
      go_ret2
      exact ⟨_, rfl, Kd.R_nil _ _ _ _ _, below_step hD.below hB⟩
    · go_enter Try.func15, Try.ntmps15
      go_wp2_with fail
      refine (stream_check.calls _ _ _ _ HT.out).mono ?_
      rintro e w1 ⟨rfl, hD⟩
      go_wp2_with fail
      refine (movedR A1 c1 l1 m (by omega) (by omega) (by omega) HB3.out (by omega) _ (Kd.C_below hr1 hD.below) hc1).mono ?_
      rintro e w2 ⟨v, rfl, hR, hB⟩
      go_wp2_with fail
      go_ret2
      exact ⟨_, rfl, Kd.R_lower hR hD.below.size, below_step hD.below hB⟩
  · rw [if_neg h0] at h
    simp only [Option.some.injEq, Prod.mk.injEq] at h
    obtain ⟨rfl, rfl⟩ := h
    have HT := Lib.hid ht
    have h1 : (t != 0) = true := bne_iff_ne.mpr h0
    have h2 : (t == 0) = false := beq_eq_false_iff_ne.mpr h0
    clear ht h0
    go_enter Try.func15, Try.ntmps15
    go_wp2_with fail
    refine (stream_check.calls _ _ _ _ HT.out).mono ?_
    rintro e w1 ⟨rfl, hD⟩
    go_wp2_with fail
    go_ret2
    exact ⟨_, rfl, Kd.R_nil _ _ _ _ _, hD.below⟩


end Go.Proofs.Ytkpmjijhgmmjoaa.H
