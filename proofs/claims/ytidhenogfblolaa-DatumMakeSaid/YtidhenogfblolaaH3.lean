-- Laid by this session's hprint.py, out of the kit's print.py and texts of the session. Not trusted: Lean checks it.
import Derived.Test.YtidhenogfblolaaH0
import Derived.Test.YtidhenogfblolaaH2
import Derived.Deep.RegionWith
import Derived.Maps.Own
namespace Go.Proofs.Ytidhenogfblolaa.H
open Go.RowKit Go.Proofs.YtidhenogfblolaaW.PrintWords Go.Proofs.YtidhenogfblolaaW.PrintLast Go.Proofs.YtidhenogfblolaaW.PrintMore
attribute [local go_sem] max2_int min2_int max_two min_two max_three min_three max_four min_four   -- for this text's walks alone
set_option linter.unusedVariables false
set_option linter.unusedSimpArgs false

-- OVPART Derived.Maps.Own Derived.Deep.RegionWith
/-! ### datum_Check: function 10 -/
def datum_Check.v (a0_0 : Int) (a0_1 : Int) : Int := match kOf a0_0 with | none => 2 | some _ => if a0_0 = 7 then (if 1 ≤ a0_1 ∧ a0_1 ≤ 1048576 then 0 else 2) else (if a0_1 = 0 then 0 else 2)
def datum_Check.f (a0_0 : Int) (a0_1 : Int) : Option Int := some (datum_Check.v a0_0 a0_1)
set_option maxRecDepth 100000 in
set_option maxHeartbeats 2000000 in
theorem datum_Check.calls (a0_0 : Int) (a0_1 : Int) (r : Int) (w : World) (h : datum_Check.f a0_0 a0_1 = some r) :
    Calls Try.prog 10 #[.agg #[.int .i64 a0_0, .int .i64 a0_1]] w fun e w' => e = .returned (.int .i64 r) ∧ Below w.heap.size w w' := by
  unfold datum_Check.f at h
  obtain rfl := Option.some.inj h
  clear h
  have HB := Aside0.mk (Below.refl w.heap.size w)
  go_enter Try.func10, Try.ntmps10
  go_wp2
  go_cut [4] from 6 (fun v4 wc => v4 = .bool (kOf a0_0).isSome ∧ wc.cell? ⟨w.heap.size, 0, none⟩ = some (.int .i64 a0_0) ∧ wc.cell? ⟨w.heap.size, 1, none⟩ = some (.int .i64 a0_1) ∧ Below w.heap.size w wc)
  case first =>
    go_region_with (go_at_call 33; refine (datum_kinds.calls _).mono ?_; rintro e w' ⟨rfl, hb, hown⟩; have hl0 := kLook w' _ _ hown a0_0; have hl1 := fun o => kLook (w'.alloc o) _ _ (hown.alloc o) a0_0; simp [go_sem] at hl0 hl1; have hc0 : w'.cell? ⟨w.heap.size, 0, none⟩ = some (.int .i64 a0_0) := (by rw [hb.cell (by simp [go_sem])]; simp [go_sem]); have hd0 : w'.cell? ⟨w.heap.size, 1, none⟩ = some (.int .i64 a0_1) := (by rw [hb.cell (by simp [go_sem])]; simp [go_sem]); have hlt : w.heap.size < w'.heap.size := Nat.lt_of_lt_of_le (by simp [go_sem]) hb.size; have hc1 := fun o => ((below_alloc (Below.refl w'.heap.size w') o).cell (p := ⟨w.heap.size, 0, none⟩) hlt).trans hc0; have hd1 := fun o => ((below_alloc (Below.refl w'.heap.size w') o).cell (p := ⟨w.heap.size, 1, none⟩) hlt).trans hd0; have hB2 := below_step (w := w) (by repeat (first | exact Below.refl _ _ | apply below_alloc | apply Below.drew)) hb; (first | (have hf0 := two_facts hb; obtain ⟨hf1, hf2, hf3, hf4⟩ := hf0) | skip))
    all_goals go_wp2
    all_goals go_meet
    all_goals first
      | exact ⟨rfl, hc1 _, hd1 _, below_alloc hB2 _⟩
      | exact ⟨rfl, (two_cell _ _ w' w.heap.size 0).trans hc0, (two_cell _ _ w' w.heap.size 1).trans hd0, Below.setCell (Below.setCell hB2 (Nat.le_succ _) _) (Nat.le_succ _) _⟩
  case rest =>
    obtain ⟨rfl, hc0, hd0, hB⟩ := hcut
    cases hk : kOf a0_0 with
    | none =>
      have hk7 : ∀ x, x = a0_0 → kOf x = none := fun x hx => hx ▸ hk
      go_wp2
      all_goals go_ret
      all_goals refine ⟨congrArg (fun x => Ending.returned (Value.int IntKind.i64 x)) (?_ : (_ : Int) = datum_Check.v _ _), hB⟩
      all_goals (unfold datum_Check.v; first | rw [hk] | rw [hk7 7 (by omega)])
    | some p =>
      have hk7 : ∀ x, x = a0_0 → kOf x = some p := fun x hx => hx ▸ hk
      go_wp2
      all_goals go_ret
      all_goals refine ⟨congrArg (fun x => Ending.returned (Value.int IntKind.i64 x)) (?_ : (_ : Int) = datum_Check.v _ _), hB⟩
      all_goals (unfold datum_Check.v; (first | rw [hk] | rw [hk7 7 (by omega)]); clear HB hB hc0 hd0 hk hk7; simp only [])
      all_goals (first | (simp_all; done) | (simp_all; omega) | skip)
      all_goals trace_state


end Go.Proofs.Ytidhenogfblolaa.H
