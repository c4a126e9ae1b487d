-- Laid by this session's hprint.py, out of the kit's print.py and texts of the session. Not trusted: Lean checks it.
import Derived.Test.YtedmambdlkogdaaH0
import Derived.Test.YtedmambdlkogdaaH4
import Derived.Test.YtedmambdlkogdaaH5
import Derived.Test.YtedmambdlkogdaaH6
import Derived.Test.YtedmambdlkogdaaH7
import Derived.Lib.Hide
import Derived.Lib.SlBytesConst
import Derived.Test.YtedmambdlkogdaaCrcPlain
import Derived.WalkLawsBesides
import Derived.WalkSpells
namespace Go.Proofs.Ytedmambdlkogdaa.H
open Go.RowKit Go.Proofs.YtedmambdlkogdaaW.PrintWords Go.Proofs.YtedmambdlkogdaaW.PrintLast Go.Proofs.YtedmambdlkogdaaW.PrintMore
attribute [local go_sem] max2_int min2_int max_two min_two max_three min_three max_four min_four   -- for this text's walks alone
set_option linter.unusedVariables false
set_option linter.unusedSimpArgs false

-- OVPART Derived.WalkLawsBesides Derived.WalkSpells Derived.Lib.SlBytesConst Derived.Lib.Hide Derived.Test.YtedmambdlkogdaaCrcPlain
/-! ### marquetrylaw02_works: function 10 -/
def marquetrylaw02_works.f : Option Bool := some true
theorem C_lit {W : World} {b : Nat} {k : IntKind} {T : TypeId} {fr : Nat × Nat} (xs : List Int) (hm : xs.length ≤ 1000) (h : W.heap[b]? = some (.cells (nums k xs).toArray T fr)) : Kd.C (Kd.int k) W (some ⟨b, 0, none⟩) xs.length xs := by
  refine Kd.C_of_reads (d := (0 : Int)) (h1 := fun _ => rfl) ⟨rfl, by omega, fun _ => ⟨_, rfl, fun j hj => ?_⟩⟩
  rw [add_plain, cell_of_row W b j _ T fr h]
  simp [nums, List.getElem?_eq_getElem hj, List.getD_eq_getElem?_getD]
theorem works_of : sums_Of.f 10 [38, 57, 244, 203] = some (3421780262, 0) := by decide +kernel
theorem works_crc1 : sums_Crc.f [49, 50, 51, 52, 53, 54, 55, 56, 57] = some 3421780262 := by decide +kernel
theorem works_crc2 : sums_Crc.f [0] = some 3523407757 := by decide +kernel
theorem works_text : sums_Text.f 1 = some ⟨#[48, 48, 48, 48, 48, 48, 48, 49]⟩ := by decide +kernel
set_option maxRecDepth 100000 in
set_option maxHeartbeats 2000000 in
theorem marquetrylaw02_works.calls  (r : Bool) (w : World) (h : marquetrylaw02_works.f  = some r) :
    Calls Try.prog 10 #[] w fun e w' => e = .returned (.bool r) ∧ Below w.heap.size w w' := by
  obtain rfl := Option.some.inj h
  clear h
  have kc := fun (w : World) (C : Array Value) (n c : Nat) => Lib.run_convert_bytes_const (P := Try.prog) w 22 5 C n c Try.underlying22 Try.underlying5
  go_enter Try.func10, Try.ntmps10
  go_wp2_with fail
  refine (sums_Of.calls 10 (some ⟨w.heap.size, 0, none⟩) 4 [38, 57, 244, 203] 3421780262 0 _ (C_lit (T := 5) (fr := (0, 0)) [38, 57, 244, 203] (by decide) (blk_new w _)) (by decide) works_of).mono ?_
  rintro e w1 ⟨rfl, hD1⟩
  have hB1 : Below w.heap.size w w1 := below_step (below_alloc (Below.refl _ _) _) hD1
  clear hD1
  go_wp2_with fail
  refine (sums_Crc.calls (some ⟨w1.heap.size, 0, none⟩) 9 [49, 50, 51, 52, 53, 54, 55, 56, 57] 3421780262 _ (C_lit (T := 5) (fr := (9, 10)) [49, 50, 51, 52, 53, 54, 55, 56, 57] (by decide) (blk_new w1 _)) (by decide) works_crc1).mono ?_
  rintro e w2 ⟨rfl, hb2⟩
  have hB2 : Below w.heap.size w w2 := below_step (below_alloc hB1 _) hb2
  clear hb2 hB1
  go_wp2_with fail
  refine (sums_Crc.calls (some ⟨w2.heap.size, 0, none⟩) 1 [0] 3523407757 _ (C_lit (T := 5) (fr := (0, 0)) [0] (by decide) (blk_new w2 _)) (by decide) works_crc2).mono ?_
  rintro e w3 ⟨rfl, hb3⟩
  have hB3 : Below w.heap.size w w3 := below_step (below_alloc hB2 _) hb3
  clear hb3 hB2
  go_wp2_with fail
  refine (marquetrylaw02_num.calls 0 0 _ rfl).mono ?_
  rintro e w4 ⟨rfl, hD4⟩
  have hB4 : Below w.heap.size w w4 := below_step hB3 hD4
  clear hD4 hB3
  go_wp2_with fail
  refine (sums_Text.calls 1 _ _ works_text).mono ?_
  rintro e w5 ⟨rfl, hb5⟩
  have hB5 : Below w.heap.size w w5 := below_step hB4 hb5
  clear hb5 hB4
  go_wp2_with fail
  go_ret
  exact ⟨rfl, hB5⟩


end Go.Proofs.Ytedmambdlkogdaa.H
