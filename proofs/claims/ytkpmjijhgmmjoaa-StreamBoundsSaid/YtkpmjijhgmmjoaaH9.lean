-- Laid by this session's hprint.py, out of the kit's print.py and texts of the session. Not trusted: Lean checks it.
import Derived.Test.YtkpmjijhgmmjoaaH0
import Derived.Test.YtkpmjijhgmmjoaaH5
import Derived.Test.YtkpmjijhgmmjoaaH6
import Derived.Test.YtkpmjijhgmmjoaaH7
import Derived.Test.YtkpmjijhgmmjoaaH8
import Derived.Lib.Hide
import Derived.Lib.SlBytesConst
import Derived.WalkLawsBesides
import Derived.WalkSpells
namespace Go.Proofs.Ytkpmjijhgmmjoaa.H
open Go.RowKit Go.Proofs.YtkpmjijhgmmjoaaW.PrintWords Go.Proofs.YtkpmjijhgmmjoaaW.PrintLast Go.Proofs.YtkpmjijhgmmjoaaW.PrintMore
attribute [local go_sem] max2_int min2_int max_two min_two max_three min_three max_four min_four   -- for this text's walks alone
set_option linter.unusedVariables false
set_option linter.unusedSimpArgs false

-- OVPART Derived.WalkLawsBesides Derived.WalkSpells Derived.Lib.SlBytesConst Derived.Lib.Hide
/-! ### marquetrylaw15_works: function 9 -/
def marquetrylaw15_works.f : Option Bool := some true
theorem C_lit {W : World} {b : Nat} {k : IntKind} {T : TypeId} {fr : Nat × Nat} (xs : List Int) (hm : xs.length ≤ 1000) (h : W.heap[b]? = some (.cells (nums k xs).toArray T fr)) : Kd.C (Kd.int k) W (some ⟨b, 0, none⟩) xs.length xs := by
  refine Kd.C_of_reads (d := (0 : Int)) (h1 := fun _ => rfl) ⟨rfl, by omega, fun _ => ⟨_, rfl, fun j hj => ?_⟩⟩
  rw [add_plain, cell_of_row W b j _ T fr h]
  simp [nums, List.getElem?_eq_getElem hj, List.getD_eq_getElem?_getD]
theorem works_w : stream_Write.f 2 [97, 49, 98, 50, 99, 51] = some ([97, 98, 99, 49, 50, 51], 0) := by decide +kernel
theorem works_r : stream_Read.f 2 [97, 98, 99, 49, 50, 51] = some ([97, 49, 98, 50, 99, 51], 0) := by decide +kernel
theorem works_p : stream_Place.f 2 3 3 = some (4, true) := by decide +kernel
theorem works_v : stream_Write.f 4 [97, 98, 99] = some ([], 8) := by decide +kernel
theorem works_sa : strOfNums [97, 98, 99, 49, 50, 51] = ⟨#[97, 98, 99, 49, 50, 51]⟩ := by rfl
theorem works_sb : strOfNums [97, 49, 98, 50, 99, 51] = ⟨#[97, 49, 98, 50, 99, 51]⟩ := by rfl
set_option maxRecDepth 100000 in
set_option maxHeartbeats 4000000 in
theorem marquetrylaw15_works.calls  (r : Bool) (w : World) (h : marquetrylaw15_works.f  = some r) :
    Calls Try.prog 9 #[] w fun e w' => e = .returned (.bool r) ∧ Below w.heap.size w w' := by
  obtain rfl := Option.some.inj h
  clear h
  have kc := fun (w : World) (C : Array Value) (n c : Nat) => Lib.run_convert_bytes_const (P := Try.prog) w 22 5 C n c Try.underlying22 Try.underlying5
  go_enter Try.func9, Try.ntmps9
  go_wp2_with fail
  refine (stream_Write.calls 2 (some ⟨w.heap.size, 0, none⟩) 6 [97, 49, 98, 50, 99, 51] _ _ _ (C_lit (T := 5) (fr := (6, 7)) [97, 49, 98, 50, 99, 51] (by decide) (blk_new w _)) (by decide) works_w).mono ?_
  rintro e w1 ⟨v1, rfl, hR1, hB1⟩
  obtain ⟨A1, c1, rfl, hc1, hC1⟩ := Kd.R_reads hR1
  have hBB1 : Below w.heap.size w w1 := below_step (below_alloc (Below.refl _ _) _) hB1
  clear hR1 hB1
  simp only [List.length_cons, List.length_nil, Nat.reduceAdd] at hc1 hC1 ⊢
  have hs1 := Kd.C_string (P := Try.prog) (A := A1) (c := c1) Try.underlying22 Try.underlying5 Try.underlying9 hC1
  go_wp2_with fail
  refine (stream_Read.calls 2 A1 c1 [97, 98, 99, 49, 50, 51] _ _ _ hC1 hc1 works_r).mono ?_
  rintro e w2 ⟨v2, rfl, hR2, hB2⟩
  obtain ⟨A2, c2, rfl, hc2, hC2⟩ := Kd.R_reads hR2
  have hBB2 : Below w.heap.size w w2 := below_step hBB1 hB2
  have hC1' := Kd.C_below hC1 hB2
  clear hR2 hB2 hC1 hs1 hBB1
  simp only [List.length_cons, List.length_nil, Nat.reduceAdd] at hc2 hC2 ⊢
  go_wp2_with fail
  refine (stream_Place.calls 2 3 3 _ _ _ works_p).mono ?_
  rintro e w3 ⟨rfl, hD3⟩
  have hBB3 : Below w.heap.size w w3 := below_step hBB2 hD3.below
  have hC1 := Kd.C_below hC1' hD3.below
  have hC2' := Kd.C_below hC2 hD3.below
  clear hC1' hC2 hD3 hBB2
  obtain ⟨ad1, rfl, _⟩ := Kd.at_int hC1 0 (by omega) (by omega)
  go_wp2_with fail
  have hC3 := Kd.C_take (m := 3) hC1 (by decide)
  simp only [List.take] at hC3
  refine (stream_Write.calls 4 (some ad1) c1 [97, 98, 99] _ _ _ hC3 (Nat.le_trans (by decide) hc1) works_v).mono ?_
  rintro e w4 ⟨v4, rfl, hR4, hB4⟩
  have hBB4 : Below w.heap.size w w4 := below_step hBB3 hB4
  have hC1' := Kd.C_below hC1 hB4
  have hC2 := Kd.C_below hC2' hB4
  have hs1 := Kd.C_string (P := Try.prog) (A := some ad1) (c := c1) Try.underlying22 Try.underlying5 Try.underlying9 hC1'
  have hs2 := Kd.C_string (P := Try.prog) (A := A2) (c := c2) Try.underlying22 Try.underlying5 Try.underlying9 hC2
  rw [works_sa] at hs1
  rw [works_sb] at hs2
  clear hR4 hB4 hC3 hC1 hC2' hC1' hC2 hBB3
  go_wp2_with fail
  refine (marquetrylaw15_num.calls 0 0 _ rfl).mono ?_
  rintro e w5 ⟨rfl, hD5⟩
  have hBB5 : Below w.heap.size w w5 := below_step hBB4 hD5
  clear hD5 hBB4
  go_wp2_with fail
  refine (marquetrylaw15_num.calls 0 0 _ rfl).mono ?_
  rintro e w6 ⟨rfl, hD6⟩
  have hBB6 : Below w.heap.size w w6 := below_step hBB5 hD6
  clear hD6 hBB5
  go_wp2_with fail
  refine (marquetrylaw15_num.calls 8 8 _ rfl).mono ?_
  rintro e w7 ⟨rfl, hD7⟩
  have hBB7 : Below w.heap.size w w7 := below_step hBB6 hD7
  clear hD7 hBB6
  go_wp2_with fail
  go_ret
  exact ⟨rfl, hBB7⟩


end Go.Proofs.Ytkpmjijhgmmjoaa.H
