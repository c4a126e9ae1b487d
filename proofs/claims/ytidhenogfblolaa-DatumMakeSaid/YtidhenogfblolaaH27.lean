-- Laid by this session's hprint.py, out of the kit's print.py and texts of the session. Not trusted: Lean checks it.
import Derived.Test.YtidhenogfblolaaH0
namespace Go.Proofs.Ytidhenogfblolaa.H
open Go.RowKit Go.Proofs.YtidhenogfblolaaW.PrintWords Go.Proofs.YtidhenogfblolaaW.PrintLast Go.Proofs.YtidhenogfblolaaW.PrintMore
attribute [local go_sem] max2_int min2_int max_two min_two max_three min_three max_four min_four   -- for this text's walks alone
set_option linter.unusedVariables false
set_option linter.unusedSimpArgs false

-- OVPART 
/-! ### datum_Double: function 18 -/
theorem f64bits_run (b : Nat) (w : World) : (callFunc 28 #[.float .f64 b]).run Try.prog w = .ok (.value (.int .u64 b)) w := by kernel_rfl
theorem f64frombits_run (n : Int) (w : World) : (callFunc 19 #[.int .u64 n]).run Try.prog w = .ok (.value (.float .f64 n.toNat)) w := by kernel_rfl
theorem f32bits_run (b : Nat) (w : World) : (callFunc 35 #[.float .f32 b]).run Try.prog w = .ok (.value (.int .u32 b)) w := by kernel_rfl
theorem f32frombits_run (n : Int) (w : World) : (callFunc 21 #[.int .u32 n]).run Try.prog w = .ok (.value (.float .f32 n.toNat)) w := by kernel_rfl
theorem double_calls (b : Nat) (w : World) : Calls Try.prog 18 #[.float .f64 b] w fun e w' => e = .returned (.agg #[.int .i64 5, .int .i64 (wrap64 b), .string ⟨#[]⟩]) ∧ Below w.heap.size w w' := by
  have h1 := f64bits_run b
  go_enter Try.func18, Try.ntmps18
  go_wp2
  refine bodyPost_ret (results_cell_row rfl _ _ w.heap.size 31 #[.int .i64 5, .int .i64 (wrap64 b), .string ⟨#[]⟩] (0, 0) _ rfl (blk_new w _) Try.underlying31 rfl (by kernel_rfl)) rfl ?_
  exact ⟨rfl, below_alloc (Below.refl _ _) _⟩
theorem float_calls (b : Nat) (w : World) (hb : b < 4294967296) : Calls Try.prog 20 #[.float .f32 b] w fun e w' => e = .returned (.agg #[.int .i64 4, .int .i64 b, .string ⟨#[]⟩]) ∧ Below w.heap.size w w' := by
  have h1 := f32bits_run b
  go_enter Try.func20, Try.ntmps20
  go_wp2
  refine bodyPost_ret (results_cell_row rfl _ _ w.heap.size 31 #[.int .i64 4, .int .i64 b, .string ⟨#[]⟩] (0, 0) _ rfl (blk_new w _) Try.underlying31 rfl (by kernel_rfl)) rfl ?_
  exact ⟨rfl, below_alloc (Below.refl _ _) _⟩


end Go.Proofs.Ytidhenogfblolaa.H
