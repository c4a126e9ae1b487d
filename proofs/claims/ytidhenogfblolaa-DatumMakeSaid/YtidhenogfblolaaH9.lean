-- Laid by this session's hprint.py, out of the kit's print.py and texts of the session. Not trusted: Lean checks it.
import Derived.Test.YtidhenogfblolaaH0
import Derived.Test.YtidhenogfblolaaH2
import Derived.Test.YtidhenogfblolaaH8
import Derived.Deep.RegionWith
import Derived.Maps.Own
namespace Go.Proofs.Ytidhenogfblolaa.H
open Go.RowKit Go.Proofs.YtidhenogfblolaaW.PrintWords Go.Proofs.YtidhenogfblolaaW.PrintLast Go.Proofs.YtidhenogfblolaaW.PrintMore
attribute [local go_sem] max2_int min2_int max_two min_two max_three min_three max_four min_four   -- for this text's walks alone
set_option linter.unusedVariables false
set_option linter.unusedSimpArgs false

-- OVPART Derived.Maps.Own Derived.Deep.RegionWith
/-! ### datum_fine: function 36 -/
def datum_fine.v (a0_0 : Int) (a0_1 : Int) (a0_2 : ByteArray) : Bool := match kOf a0_0 with | none => false | some (lo, hi) => decide (lo ≤ a0_1) && (decide (a0_1 ≤ hi) && ((decide (a0_0 = 6) || decide (a0_0 = 7) || decide (a0_2.toList = [])) && (decide ((a0_2.size : Int) ≤ 1048576) && (decide (a0_0 ≠ 7) || decide (a0_2.toList ≠ [])))))
def datum_fine.f (a0_0 : Int) (a0_1 : Int) (a0_2 : ByteArray) : Option Bool := some (datum_fine.v a0_0 a0_1 a0_2)
set_option maxRecDepth 100000 in
set_option maxHeartbeats 8000000 in
theorem datum_fine.calls (a0_0 : Int) (a0_1 : Int) (a0_2 : ByteArray) (r : Bool) (w : World) (h : datum_fine.f a0_0 a0_1 a0_2 = some r) :
    Calls Try.prog 36 #[.agg #[.int .i64 a0_0, .int .i64 a0_1, .string a0_2]] w fun e w' => e = .returned (.bool r) ∧ Below w.heap.size w w' := by
  unfold datum_fine.f at h
  obtain rfl := Option.some.inj h
  clear h
  have HB := Aside0.mk (Below.refl w.heap.size w)
  go_enter Try.func36, Try.ntmps36
  go_wp2
  go_cut [3, 4] from 5 (fun v3 v4 wc => ∃ bb : Nat, v3 = .pointer (some ⟨bb, 0, none⟩) ∧ v4 = .bool (kOf a0_0).isSome ∧ wc.cell? ⟨w.heap.size, 0, none⟩ = some (.int .i64 a0_0) ∧ wc.cell? ⟨w.heap.size, 1, none⟩ = some (.int .i64 a0_1) ∧ wc.cell? ⟨w.heap.size, 2, none⟩ = some (.string a0_2) ∧ wc.cell? ⟨bb, 0, none⟩ = some (.int .i64 (kLo a0_0)) ∧ wc.cell? ⟨bb, 1, none⟩ = some (.int .i64 (kHi a0_0)) ∧ Below w.heap.size w wc)
  case first =>
    go_region_with (go_at_call 33; refine (datum_kinds.calls _).mono ?_; rintro e w' ⟨rfl, hb, hown⟩; have hl0 := kLook w' _ _ hown a0_0; have hl1 := fun o => kLook (w'.alloc o) _ _ (hown.alloc o) a0_0; simp [go_sem] at hl0 hl1; have hc0 : w'.cell? ⟨w.heap.size, 0, none⟩ = some (.int .i64 a0_0) := (by rw [hb.cell (by simp [go_sem])]; simp [go_sem]); have hd0 : w'.cell? ⟨w.heap.size, 1, none⟩ = some (.int .i64 a0_1) := (by rw [hb.cell (by simp [go_sem])]; simp [go_sem]); have he0 : w'.cell? ⟨w.heap.size, 2, none⟩ = some (.string a0_2) := (by rw [hb.cell (by simp [go_sem])]; simp [go_sem]); have he1 := fun o => ((below_alloc (Below.refl w'.heap.size w') o).cell (p := ⟨w.heap.size, 2, none⟩) (Nat.lt_of_lt_of_le (by simp [go_sem]) hb.size)).trans he0; have hlt : w.heap.size < w'.heap.size := Nat.lt_of_lt_of_le (by simp [go_sem]) hb.size; have hc1 := fun o => ((below_alloc (Below.refl w'.heap.size w') o).cell (p := ⟨w.heap.size, 0, none⟩) hlt).trans hc0; have hd1 := fun o => ((below_alloc (Below.refl w'.heap.size w') o).cell (p := ⟨w.heap.size, 1, none⟩) hlt).trans hd0; have hB2 := below_step (w := w) (by repeat (first | exact Below.refl _ _ | apply below_alloc | apply Below.drew)) hb; (first | (have hf0 := two_facts hb; obtain ⟨hf1, hf2, hf3, hf4⟩ := hf0) | skip))
    all_goals go_wp2
    all_goals go_meet
    all_goals first
      | exact ⟨_, rfl, rfl, hc1 _, hd1 _, he1 _, by simp [go_sem], by simp [go_sem], below_alloc hB2 _⟩
      | exact ⟨_, rfl, rfl, (two_cell _ _ w' w.heap.size 0).trans hc0, (two_cell _ _ w' w.heap.size 1).trans hd0, (two_cell _ _ w' w.heap.size 2).trans he0, by simp [go_sem, hf1, hf2, hf3, hf4], by simp [go_sem, hf1, hf2, hf3, hf4], Below.setCell (Below.setCell hB2 (Nat.le_succ _) _) (Nat.le_succ _) _⟩
  case rest =>
    obtain ⟨bb, rfl, rfl, hc0, hd0, he0, hf0, hg0, hB⟩ := hcut
    have ht : datum_texts.f a0_0 = some (decide (a0_0 = 6) || decide (a0_0 = 7)) := by
      unfold datum_texts.f
      by_cases h6 : a0_0 = 6
      · simp [h6]
      · rw [if_neg h6, show decide (a0_0 = 6) = false from decide_eq_false h6]
        rfl
    cases hk : kOf a0_0 with
    | none =>
      go_wp2_with fail
      go_ret
      exact ⟨by unfold datum_fine.v; rw [hk]; rfl, hB⟩
    | some p =>
      obtain ⟨lo, hi⟩ := p
      have hk7 : ∀ x, x = a0_0 → kOf x = some (lo, hi) := fun x hx => hx ▸ hk
      have e1 : kLo a0_0 = lo := by unfold kLo; rw [hk]; rfl
      have e2 : kHi a0_0 = hi := by unfold kHi; rw [hk]; rfl
      rw [e1] at hf0
      rw [e2] at hg0
      clear e1 e2
      go_wp2_with (first | ((with_reducible refine gate_callee (f := 41) rfl ?_); (try (refine gate_guard (by rfl) ?_; dsimp only)); refine goesL_ (some 30) rfl rfl Try.func41 (by kernel_rfl) rfl #[.int .i64 a0_0] rfl (by (try simp only [List.map_toArray, List.map_cons, List.map_nil]); first | done | rfl) ?_; (with_reducible refine (datum_texts.calls a0_0 _ _ ht).mono ?_); rintro e w' ⟨rfl, ⟨nd, rfl⟩⟩; refine ⟨_, rfl, ?_⟩))
      all_goals go_ret
      all_goals refine ⟨congrArg (fun x => Ending.returned (Value.bool x)) (?_ : (_ : Bool) = datum_fine.v _ _ _), by first | exact hB | exact pw_below_drewN hB _⟩
      all_goals (unfold datum_fine.v; (first | rw [hk] | rw [hk7 7 (by omega)]); clear HB hB hc0 hd0 he0 hf0 hg0 ht hk hk7; simp only [])
      all_goals (first | (simp_all; done) | (simp_all; omega) | (cases hz : a0_2.toList <;> simp_all; done) | skip)
      all_goals trace_state


end Go.Proofs.Ytidhenogfblolaa.H
