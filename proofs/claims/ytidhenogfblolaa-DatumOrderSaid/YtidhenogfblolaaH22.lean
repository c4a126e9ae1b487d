-- Laid by this session's hprint.py, out of the kit's print.py and texts of the session. Not trusted: Lean checks it.
import Derived.Test.YtidhenogfblolaaH0
import Derived.Test.YtidhenogfblolaaH19
namespace Go.Proofs.Ytidhenogfblolaa.H
open Go.RowKit Go.Proofs.YtidhenogfblolaaW.PrintWords Go.Proofs.YtidhenogfblolaaW.PrintLast Go.Proofs.YtidhenogfblolaaW.PrintMore
attribute [local go_sem] max2_int min2_int max_two min_two max_three min_three max_four min_four   -- for this text's walks alone
set_option linter.unusedVariables false
set_option linter.unusedSimpArgs false

-- OVPART 
/-! ### datum_Nan: function 29 -/
-- CALLS marquetry/datum.Real
def datum_Nan.f (a0_0 a0_1 : Int) (a0_2 : ByteArray) : Option Bool := some (isReal a0_0 a0_1 a0_2 && nanD a0_0 a0_1)
open Go.Proofs.YtidhenogfblolaaF
theorem order_self (b : Nat) : (FloatKind.f64.format.order b b != some Ordering.eq) = (Ieee.double.read b).isNaN := by
  have e : FloatKind.f64.format.order b b = (Ieee.double.read b).order (Ieee.double.read b) := rfl
  rw [e]
  cases hr : Ieee.double.read b with
  | nan s t => rfl
  | infinity s => rw [order_refl _ (by rintro ⟨s, t, h⟩; cases h)]; rfl
  | number s m e => rw [order_refl _ (by rintro ⟨s, t, h⟩; cases h)]; rfl
theorem rbits_num (k i : Int) (hn : nanD k i = false) : (Ieee.double.read (rbits k i)).isNaN = false := by
  unfold nanD at hn
  unfold rbits
  split
  · rename_i h4
    rw [if_pos h4] at hn
    cases hr : Ieee.single.read i.toNat with
    | nan s t => rw [hr] at hn; cases hn
    | infinity s => rw [widen_inf]; rfl
    | number s m e =>
      obtain ⟨hm, he, he'⟩ := read32 _ s m e hr
      obtain ⟨s', m', e', hx⟩ := widen_num s m e hm he he'
      rw [hx]; rfl
  · rename_i h4
    rw [if_neg h4] at hn
    exact hn
theorem real_nan {k i : Int} {t : ByteArray} {b : Nat} (h : isReal k i t = true) (hP : RealP k i t b) : (FloatKind.f64.format.order b b != some Ordering.eq) = nanD k i := by
  rw [order_self]
  have h2 := hP.2 h
  cases hn : nanD k i with
  | true => rw [hn, if_pos rfl] at h2; exact h2
  | false =>
    rw [hn, if_neg (by simp)] at h2
    rw [h2]
    exact rbits_num k i hn
set_option maxHeartbeats 2000000 in
set_option maxRecDepth 100000 in
theorem datum_Nan.calls (a0_0 : Int) (a0_1 : Int) (a0_2 : ByteArray) (r : Bool) (w : World) (h : datum_Nan.f a0_0 a0_1 a0_2 = some r) :
    Calls Try.prog 29 #[.agg #[.int .i64 a0_0, .int .i64 a0_1, .string a0_2]] w fun e w' => e = .returned (.bool r) ∧ Below w.heap.size w w' := by
  unfold datum_Nan.f at h
  obtain rfl := Option.some.inj h
  clear h
  go_enter Try.func29, Try.ntmps29
  go_wp2_with (first | ((with_reducible refine gate_callee (f := 26) rfl ?_); (try (refine gate_guard (by rfl) ?_; dsimp only)); refine goesL_ _ rfl rfl Try.func26 (by kernel_rfl) rfl #[.agg #[.int .i64 a0_0, .int .i64 a0_1, .string a0_2]] rfl (by (try simp only [List.map_toArray, List.map_cons, List.map_nil]); first | done | rfl) ?_; refine (real_calls a0_0 a0_1 a0_2 _).mono ?_; rintro e w' ⟨⟨b, rfl, hP⟩, hb⟩; have hB2 := below_step (w := w) (by repeat (first | exact Below.refl _ _ | apply below_alloc | apply Below.drew)) hb; clear hb; refine ⟨_, rfl, ?_⟩))
  · go_ret
    rename_i hr
    exact ⟨by rw [hr, Bool.true_and, ← real_nan hr hP]; rfl, hB2⟩
  · go_ret
    rename_i hr
    rw [Bool.not_eq_true] at hr
    exact ⟨by rw [hr]; rfl, hB2⟩


end Go.Proofs.Ytidhenogfblolaa.H
