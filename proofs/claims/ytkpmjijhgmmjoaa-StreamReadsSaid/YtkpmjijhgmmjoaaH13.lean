-- Laid by this session's hprint.py, out of the kit's print.py and texts of the session. Not trusted: Lean checks it.
import Derived.Test.YtkpmjijhgmmjoaaH0
import Derived.Test.YtkpmjijhgmmjoaaH10
import Derived.Lib.Hide
namespace Go.Proofs.Ytkpmjijhgmmjoaa.H
open Go.RowKit Go.Proofs.YtkpmjijhgmmjoaaW.PrintWords Go.Proofs.YtkpmjijhgmmjoaaW.PrintLast Go.Proofs.YtkpmjijhgmmjoaaW.PrintMore
attribute [local go_sem] max2_int min2_int max_two min_two max_three min_three max_four min_four   -- for this text's walks alone
set_option linter.unusedVariables false
set_option linter.unusedSimpArgs false

-- OVPART Derived.Lib.Hide
/-! ### marquetrylaw15_kept: function 14 -/
set_option maxRecDepth 100000 in
set_option maxHeartbeats 4000000 in
theorem kept_full (g c : Nat) (l0 : List Int) (A1 : Option Addr) (c1 : Nat) (w : World) (hm : Kd.C (Kd.int .u8) w (some ⟨g, 0, none⟩) (l0 ++ [77]).length (l0 ++ [77])) (hc : l0.length + 1 ≤ c) (h1 : Kd.C (Kd.int .u8) w A1 l0.length l0) (hlen : l0.length ≤ 1000000) :
    Calls Try.prog 14 #[.slice (some ⟨g, 0, none⟩) l0.length c, .slice A1 l0.length c1] w fun e w' => e = .returned (.bool true) ∧ Drawn0 w w' := by
  have ht := Kd.C_take (m := l0.length) hm (by simp)
  rw [List.take_left] at ht
  have hcv1 := Kd.C_string (P := Try.prog) (A := some ⟨g, 0, none⟩) (c := c) Try.underlying22 Try.underlying5 Try.underlying9 ht
  have hcv2 := Kd.C_string (P := Try.prog) (A := A1) (c := c1) Try.underlying22 Try.underlying5 Try.underlying9 h1
  obtain ⟨i0, hi, _, _, _⟩ := info_parts info_u8
  have hcut := cut_cap (P := Try.prog) 22 5 .i64 Try.underlying22 hi (some ⟨g, 0, none⟩) l0.length c ((l0.length : Int) + 1) (by omega) (by omega)
  rw [show ((l0.length : Int) + 1).toNat = l0.length + 1 by omega] at hcut
  obtain ⟨ad, had, hcell⟩ := Kd.at_int hm (l0.length : Int) (by omega) (by simp; omega)
  cases had
  have hrd : rd (l0 ++ [77]) (l0.length : Int) = 77 := by simp [rd]
  rw [hrd, Int.toNat_natCast] at hcell
  have hcell2 : w.cell? ⟨g, l0.length, none⟩ = some (.int .u8 77) := by rw [← add_plain]; exact hcell
  clear hi hrd hcell ht hm h1
  have hle : (l0.length : Int) + 1 ≤ (c : Int) := by omega
  go_enter Try.func14, Try.ntmps14
  go_wp2
  go_ret
  exact ⟨rfl, Drawn0.refl w⟩


end Go.Proofs.Ytkpmjijhgmmjoaa.H
