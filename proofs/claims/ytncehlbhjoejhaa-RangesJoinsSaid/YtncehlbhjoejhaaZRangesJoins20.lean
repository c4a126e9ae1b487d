/- Texts of the claim, packed: H48. -/
import Derived.Test.YtncehlbhjoejhaaZRangesJoins4
import Derived.Test.YtncehlbhjoejhaaZRangesJoins6
import Derived.Test.YtncehlbhjoejhaaZRangesJoins11
import Derived.Test.YtncehlbhjoejhaaZRangesJoins19
section
-- Laid by this session's hprint.py, out of the kit's print.py and texts of the session. Not trusted: Lean checks it.
namespace Go.Proofs.Ytncehlbhjoejhaa.H
open Go.RowKit Go.Proofs.YtncehlbhjoejhaaW.PrintWords Go.Proofs.YtncehlbhjoejhaaW.PrintLast Go.Proofs.YtncehlbhjoejhaaW.PrintMore
attribute [local go_sem] max2_int min2_int max_two min_two max_three min_three max_four min_four   -- for this text's walks alone
set_option linter.unusedVariables false
set_option linter.unusedSimpArgs false

-- OVPART Derived.Test.YtncehlbhjoejhaaDatAid
-- CALLS marquetry/marquetryref09.Fine marquetry/datum.Real
set_option maxHeartbeats 2000000 in
set_option maxRecDepth 100000 in
theorem refreal_calls (k i : Int) (t : ByteArray) (w : World) (hi0 : -9223372036854775808 ≤ i ∧ i ≤ 9223372036854775807) : Calls Try.prog 60 #[.agg #[.int .i64 k, .int .i64 i, .string t]] w fun e w' => (∃ b, e = .returned (.tuple #[.float .f64 b, .bool (isReal k i t)]) ∧ RealP k i t b) ∧ Below w.heap.size w w' := by
 have h64 := r64from_run
 have h32 := r32from_run
 have hff := DatAid.ref_fine k i t hi0
 clear hi0
 generalize hfv : datum_fine.v k i t = fv at hff
 have hR : isReal k i t = (fv && (decide (k = 4) || decide (k = 5))) := by unfold isReal; rw [hfv]
 have HR := Aside0.mk hR
 clear hR
 go_enter Try.func60, Try.ntmps60
 cases fv
 ·go_wp2_with (first | ((with_reducible refine gate_callee (f := 49) rfl ?_); (try (refine gate_guard (by rfl) ?_; dsimp only)); refine goesL_ _ rfl rfl Try.func49 (by kernel_rfl) rfl #[.agg #[.int .i64 k, .int .i64 i, .string t]] rfl (by (try simp only [List.map_toArray, List.map_cons, List.map_nil]); first | done | rfl) ?_; refine (marquetryref09_Fine.calls 1 k i t _ _ hff).mono ?_; rintro e w' ⟨rfl, hb⟩; have hB2 := below_step (w := w) (by repeat (first | exact Below.refl _ _ | apply below_alloc | apply Below.drew)) hb; have hc0 : w'.cell? ⟨w.heap.size, 0, none⟩ = some (.int .i64 k) := (by rw [hb.cell (by simp [go_sem])]; simp [go_sem]); have hc1 : w'.cell? ⟨w.heap.size, 1, none⟩ = some (.int .i64 i) := (by rw [hb.cell (by simp [go_sem])]; simp [go_sem]); clear hb; refine ⟨_, rfl, ?_⟩))
  go_ret2
  exact real_post false HR.out (realP_no HR.out) hB2
 ·by_cases h4 : k = 4
  ·subst h4
   have HR2 := Aside0.mk (show isReal 4 i t = true by rw [HR.out]; rfl)
   have hi := fine_r4 hfv
   by_cases hn : (Ieee.single.read i.toNat).isNaN = true
   ·go_wp2_with (first | ((with_reducible refine gate_callee (f := 49) rfl ?_); (try (refine gate_guard (by rfl) ?_; dsimp only)); refine goesL_ _ rfl rfl Try.func49 (by kernel_rfl) rfl #[.agg #[.int .i64 4, .int .i64 i, .string t]] rfl (by (try simp only [List.map_toArray, List.map_cons, List.map_nil]); first | done | rfl) ?_; refine (marquetryref09_Fine.calls 1 4 i t _ _ hff).mono ?_; rintro e w' ⟨rfl, hb⟩; have hB2 := below_step (w := w) (by repeat (first | exact Below.refl _ _ | apply below_alloc | apply Below.drew)) hb; have hc0 : w'.cell? ⟨w.heap.size, 0, none⟩ = some (.int .i64 4) := (by rw [hb.cell (by simp [go_sem])]; simp [go_sem]); have hc1 : w'.cell? ⟨w.heap.size, 1, none⟩ = some (.int .i64 i) := (by rw [hb.cell (by simp [go_sem])]; simp [go_sem]); clear hb; obtain ⟨b, hwn, hbn⟩ := widen_nan i.toNat hn w'; refine ⟨_, rfl, ?_⟩))
    go_ret2
    exact real_post true HR2.out (realP_nan HR2.out hn hbn) hB2.drew
   ·have hw := widen_ok i.toNat (by simpa using hn)
    go_wp2_with (first | ((with_reducible refine gate_callee (f := 49) rfl ?_); (try (refine gate_guard (by rfl) ?_; dsimp only)); refine goesL_ _ rfl rfl Try.func49 (by kernel_rfl) rfl #[.agg #[.int .i64 4, .int .i64 i, .string t]] rfl (by (try simp only [List.map_toArray, List.map_cons, List.map_nil]); first | done | rfl) ?_; refine (marquetryref09_Fine.calls 1 4 i t _ _ hff).mono ?_; rintro e w' ⟨rfl, hb⟩; have hB2 := below_step (w := w) (by repeat (first | exact Below.refl _ _ | apply below_alloc | apply Below.drew)) hb; have hc0 : w'.cell? ⟨w.heap.size, 0, none⟩ = some (.int .i64 4) := (by rw [hb.cell (by simp [go_sem])]; simp [go_sem]); have hc1 : w'.cell? ⟨w.heap.size, 1, none⟩ = some (.int .i64 i) := (by rw [hb.cell (by simp [go_sem])]; simp [go_sem]); clear hb; refine ⟨_, rfl, ?_⟩))
    go_ret2
    exact real_post true HR2.out (realP_num HR2.out (show (Ieee.single.read i.toNat).isNaN = false by simpa using hn) rfl) hB2
  ·by_cases h5 : k = 5
   ·subst h5
    have HR2 := Aside0.mk (show isReal 5 i t = true by rw [HR.out]; rfl)
    go_wp2_with (first | ((with_reducible refine gate_callee (f := 49) rfl ?_); (try (refine gate_guard (by rfl) ?_; dsimp only)); refine goesL_ _ rfl rfl Try.func49 (by kernel_rfl) rfl #[.agg #[.int .i64 5, .int .i64 i, .string t]] rfl (by (try simp only [List.map_toArray, List.map_cons, List.map_nil]); first | done | rfl) ?_; refine (marquetryref09_Fine.calls 1 5 i t _ _ hff).mono ?_; rintro e w' ⟨rfl, hb⟩; have hB2 := below_step (w := w) (by repeat (first | exact Below.refl _ _ | apply below_alloc | apply Below.drew)) hb; have hc0 : w'.cell? ⟨w.heap.size, 0, none⟩ = some (.int .i64 5) := (by rw [hb.cell (by simp [go_sem])]; simp [go_sem]); have hc1 : w'.cell? ⟨w.heap.size, 1, none⟩ = some (.int .i64 i) := (by rw [hb.cell (by simp [go_sem])]; simp [go_sem]); clear hb; refine ⟨_, rfl, ?_⟩))
    go_ret2
    exact real_post true HR2.out (realP_5 HR2.out) hB2
   ·have HR2 := Aside0.mk (show isReal k i t = false by rw [HR.out]; simp [h4, h5])
    have b4 : (k != 4) = true := bne_iff_ne.mpr h4
    have b5 : (k != 5) = true := bne_iff_ne.mpr h5
    have b6 : (k == 4) = false := beq_eq_false_iff_ne.mpr h4
    have b7 : (k == 5) = false := beq_eq_false_iff_ne.mpr h5
    go_wp2_with (first | ((with_reducible refine gate_callee (f := 49) rfl ?_); (try (refine gate_guard (by rfl) ?_; dsimp only)); refine goesL_ _ rfl rfl Try.func49 (by kernel_rfl) rfl #[.agg #[.int .i64 k, .int .i64 i, .string t]] rfl (by (try simp only [List.map_toArray, List.map_cons, List.map_nil]); first | done | rfl) ?_; refine (marquetryref09_Fine.calls 1 k i t _ _ hff).mono ?_; rintro e w' ⟨rfl, hb⟩; have hB2 := below_step (w := w) (by repeat (first | exact Below.refl _ _ | apply below_alloc | apply Below.drew)) hb; have hc0 : w'.cell? ⟨w.heap.size, 0, none⟩ = some (.int .i64 k) := (by rw [hb.cell (by simp [go_sem])]; simp [go_sem]); have hc1 : w'.cell? ⟨w.heap.size, 1, none⟩ = some (.int .i64 i) := (by rw [hb.cell (by simp [go_sem])]; simp [go_sem]); clear hb; refine ⟨_, rfl, ?_⟩))
    all_goals (first | (exfalso; simp_all; done) | (go_ret2; exact real_post false HR2.out (realP_no HR2.out) hB2))


end Go.Proofs.Ytncehlbhjoejhaa.H
end
