-- Laid by this session's hprint.py, out of the kit's print.py and texts of the session. Not trusted: Lean checks it.
import Derived.Test.YtkpmjijhgmmjoaaH0
import Derived.Test.YtkpmjijhgmmjoaaH1
import Derived.Test.YtkpmjijhgmmjoaaH3
import Derived.Test.YtkpmjijhgmmjoaaH5
import Derived.Test.YtkpmjijhgmmjoaaH7
import Derived.Test.YtkpmjijhgmmjoaaH8
import Derived.Test.YtkpmjijhgmmjoaaH9
import Derived.Test.YtkpmjijhgmmjoaaH10
import Derived.Lib.Hide
import Derived.StillTailTactics
import Derived.WalkSpells
namespace Go.Proofs.Ytkpmjijhgmmjoaa.H
open Go.RowKit Go.Proofs.YtkpmjijhgmmjoaaW.PrintWords Go.Proofs.YtkpmjijhgmmjoaaW.PrintLast Go.Proofs.YtkpmjijhgmmjoaaW.PrintMore
attribute [local go_sem] max2_int min2_int max_two min_two max_three min_three max_four min_four   -- for this text's walks alone
set_option linter.unusedVariables false
set_option linter.unusedSimpArgs false

-- OVPART Derived.Lib.Hide Derived.WalkSpells Derived.StillTailTactics
/-! ### marquetrylaw15_StreamBounds: function 6 -/
def marquetrylaw15_StreamBounds.f : Option Bool := some true
theorem bounds_check64 : stream_check.f 64 1048576 = some 0 := by decide +kernel
theorem bounds_check1 : stream_check.f 1 1048577 = some 3 := by decide +kernel
theorem bounds_write {b : List Int} (h : b.length = 1048576) : stream_Write.f 64 b = some (Go.Proofs.YtkpmjijhgmmjoaaP.laid 64 b, 0) := by
  unfold stream_Write.f
  rw [h, show ((1048576 : Nat) : Int) = 1048576 from rfl, bounds_check64]
  rfl
theorem bounds_read {b : List Int} (h : b.length = 1048576) : stream_Read.f 64 (Go.Proofs.YtkpmjijhgmmjoaaP.laid 64 b) = some (b, 0) := by
  unfold stream_Read.f
  rw [Go.Proofs.YtkpmjijhgmmjoaaP.laid_len, h, show ((1048576 : Nat) : Int) = 1048576 from rfl, bounds_check64, Option.bind_some, if_pos rfl, show (64 : Int).toNat = 64 from rfl, Go.Proofs.YtkpmjijhgmmjoaaP.back_laid]
  rw [h]
theorem bounds_write1 {b : List Int} (h : b.length = 1048577) : stream_Write.f 1 b = some ([], 3) := by
  unfold stream_Write.f
  rw [h, show ((1048577 : Nat) : Int) = 1048577 from rfl, bounds_check1]
  rfl
theorem bounds_read1 {b : List Int} (h : b.length = 1048577) : stream_Read.f 1 b = some ([], 3) := by
  unfold stream_Read.f
  rw [h, show ((1048577 : Nat) : Int) = 1048577 from rfl, bounds_check1]
  rfl
theorem bounds_nil : stream_Write.f 65 [] = some ([], 2) := by decide +kernel
theorem bounds_p1 : stream_Place.f 64 16384 1048575 = some (1048575, true) := by decide +kernel
theorem bounds_p2 : stream_Place.f 64 16385 0 = some (0, false) := by decide +kernel
theorem num_still (x : Int) (w : World) : Calls Try.prog 13 #[.int .i64 x] w fun e w' => e = .returned (.int .i64 x) ∧ w' = w := by
  go_enter Try.func13, Try.ntmps13
  go_wp2
  go_ret
  exact ⟨rfl, rfl⟩
set_option maxRecDepth 100000 in
set_option maxHeartbeats 4000000 in
theorem marquetrylaw15_StreamBounds.calls  (r : Bool) (w : World) (h : marquetrylaw15_StreamBounds.f  = some r) :
    Calls Try.prog 6 #[] w fun e w' => e = .returned (.bool r) ∧ Below w.heap.size w w' := by
  obtain rfl := Option.some.inj h
  clear h
  obtain ⟨N, hN⟩ : ∃ N : Nat, N = 1048577 := ⟨_, rfl⟩
  have hNi : ((N : Nat) : Int) = 1048577 := by omega
  have hmk := run_make_row' (P := Try.prog) 22 5 (.int .u8 0) 1 Try.underlying22 info_u8_ rfl .i64 .i64 N (by omega) (by omega)
  rw [hNi] at hmk
  have HN := Lib.hid hN
  clear hN hNi
  have hN1 : 1048577 ≤ N := Nat.le_of_eq HN.out.symm
  have hN2 : N ≤ 1048577 := Nat.le_of_eq HN.out
  have hown := own_made w w.heap.size 5 .u8 N (Nat.le_refl _) (by omega)
  have hat1 := own_at hown 1 (by omega) (by omega)
  rw [show (1 : Int).toNat = 1 from rfl] at hat1
  obtain ⟨hc1, hf1⟩ := hat1
  rw [show rd (List.replicate N 0) 1 = 0 by unfold rd; rw [show (1 : Int).toNat = 1 from rfl, List.getD_eq_getElem?_getD, List.getElem?_replicate, if_pos (by omega)]; rfl] at hc1
  obtain ⟨b, hb⟩ : ∃ b : List Int, b = (List.replicate N (0 : Int)).set 1 7 := ⟨_, rfl⟩
  have hbl : b.length = N := by rw [hb, List.length_set, List.length_replicate]
  have hst := (own_store hown 1 7).1
  rw [show (1 : Int).toNat = 1 from rfl, ← hb] at hst
  have hw1 : (w.alloc (.cells (madeCells #[.int .u8 0] N) 5)).setCell ⟨w.heap.size, 1, none⟩ (.int .u8 7) = w.alloc (.cells ((madeCells #[.int .u8 0] N).setIfInBounds 1 (.int .u8 7)) 5) := by
    rw [World.setCell_alloc_at _ _ _ _ _ rfl]
  rw [hw1] at hst
  obtain ⟨W1, hW1⟩ : ∃ W1, W1 = w.alloc (.cells ((madeCells #[.int .u8 0] N).setIfInBounds 1 (.int .u8 7)) 5) := ⟨_, rfl⟩
  have hB1 : Below w.heap.size w W1 := by rw [hW1]; exact below_alloc (Below.refl _ _) _
  rw [← hW1] at hst
  have hC := Kd.C_of_reads (enc := Value.int .u8) (d := (0 : Int)) (h1 := fun _ => rfl) (own_reads' hst)
  have HW := Lib.hid hW1
  have HC := Lib.hid hC
  have HBL := Lib.hid hbl
  clear hb hbl hw1 hown hst hW1 hC
  go_enter Try.func6, Try.ntmps6
  go_wp2_with fail
  rw [← HW.out]
  obtain ⟨t, ht⟩ : ∃ t : List Int, t = b.take 1048576 := ⟨_, rfl⟩
  have htl : t.length = 1048576 := by rw [ht, List.length_take, HBL.out]; omega
  have hCb : Kd.C (Kd.int .u8) W1 (some ⟨w.heap.size, 0, none⟩) b.length b := by rw [HBL.out]; exact HC.out
  have hT := Kd.C_take (m := 1048576) hCb (by rw [HBL.out]; omega)
  clear hCb
  rw [← ht] at hT
  have HTL := Lib.hid htl
  clear htl ht
  have k1 := stream_Write.calls 64 (some ⟨w.heap.size, 0, none⟩) N t _ _ W1 hT (by rw [HTL.out]; omega) (bounds_write HTL.out)
  rw [HTL.out] at k1
  refine k1.mono ?_
  clear k1
  rintro e w2 ⟨v2, rfl, hR2, hB2⟩
  obtain ⟨A2, c2, rfl, hc2, hC2⟩ := Kd.R_reads hR2
  have hb2 := Kd.C_below HC.out hB2
  have ht2 := Kd.C_below hT hB2
  have hBB2 := below_step hB1 hB2
  rw [Go.Proofs.YtkpmjijhgmmjoaaP.laid_len, HTL.out]
  have HC2 := Lib.hid hC2
  have Hc2 := Lib.hid hc2
  clear hR2 hB2 hC2 hc2 hT
  go_wp2_with fail
  have k2 := stream_Read.calls 64 A2 c2 (Go.Proofs.YtkpmjijhgmmjoaaP.laid 64 t) _ _ w2 HC2.out Hc2.out (bounds_read HTL.out)
  rw [Go.Proofs.YtkpmjijhgmmjoaaP.laid_len, HTL.out] at k2
  refine k2.mono ?_
  clear k2
  rintro e w3 ⟨v3, rfl, hR3, hB3⟩
  obtain ⟨A3, c3, rfl, hc3, hC3⟩ := Kd.R_reads hR3
  have hb3 := Kd.C_below hb2 hB3
  have ht3 := Kd.C_below ht2 hB3
  have hBB3 := below_step hBB2 hB3
  rw [HTL.out] at hC3 ⊢
  clear hR3 hB3 hc3 hb2 ht2 hBB2 HC2 Hc2
  go_wp2_with fail
  have k3 := stream_Write.calls 1 (some ⟨w.heap.size, 0, none⟩) N b _ _ w3 (by rw [HBL.out]; exact hb3) (by rw [HBL.out]; exact Nat.le_refl _) (bounds_write1 (HBL.out.trans HN.out))
  rw [HBL.out] at k3
  refine k3.mono ?_
  clear k3
  rintro e w4 ⟨v4, rfl, hR4, hB4⟩
  obtain ⟨A4, c4, rfl, _, _⟩ := Kd.R_reads hR4
  have hb4 := Kd.C_below hb3 hB4
  have ht4 := Kd.C_below ht3 hB4
  have hC4 := Kd.C_below hC3 hB4
  have hBB4 := below_step hBB3 hB4
  clear hR4 hB4 hb3 ht3 hC3 hBB3
  go_wp2_with fail
  have k4 := stream_Read.calls 1 (some ⟨w.heap.size, 0, none⟩) N b _ _ w4 (by rw [HBL.out]; exact hb4) (by rw [HBL.out]; exact Nat.le_refl _) (bounds_read1 (HBL.out.trans HN.out))
  rw [HBL.out] at k4
  refine k4.mono ?_
  clear k4
  rintro e w5 ⟨v5, rfl, hR5, hB5⟩
  obtain ⟨A5, c5, rfl, _, _⟩ := Kd.R_reads hR5
  have ht5 := Kd.C_below ht4 hB5
  have hC5 := Kd.C_below hC4 hB5
  have hBB5 := below_step hBB4 hB5
  clear hR5 hB5 hb4 ht4 hC4 hBB4
  go_wp2_with fail
  have k5 := stream_Write.calls 65 none 0 [] _ _ w5 (Kd.C_nil _ _) (by simp) bounds_nil
  refine k5.mono ?_
  clear k5
  rintro e w6 ⟨v6, rfl, hR6, hB6⟩
  have ht6 := Kd.C_below ht5 hB6
  have hC6 := Kd.C_below hC5 hB6
  have hBB6 := below_step hBB5 hB6
  clear hR6 hB6 ht5 hC5 hBB5
  go_wp2_with fail
  refine (stream_Place.calls 64 16384 1048575 _ _ _ bounds_p1).mono ?_
  rintro e w7 ⟨rfl, hD7⟩
  have ht7 := Kd.C_below ht6 hD7.below
  have hC7 := Kd.C_below hC6 hD7.below
  have hBB7 := below_step hBB6 hD7.below
  clear hD7 ht6 hC6 hBB6
  go_wp2_with fail
  refine (stream_Place.calls 64 16385 0 _ _ _ bounds_p2).mono ?_
  rintro e w8 ⟨rfl, hD8⟩
  have ht8 := Kd.C_below ht7 hD8.below
  have hC8 := Kd.C_below hC7 hD8.below
  have hBB8 := below_step hBB7 hD8.below
  clear hD8 ht7 hC7 hBB7
  go_wp2_with fail
  have hD9 : Drawn0 w8 w8.drew := (Drawn0.refl w8).step 1
  have ht9 := Kd.C_below ht8 hD9.below
  have hC9 := Kd.C_below hC8 hD9.below
  have hBB9 : Below w.heap.size w w8.drew := hBB8.drew
  rw [HTL.out] at ht9
  have hs1 := Kd.C_string (P := Try.prog) (A := A3) (c := c3) Try.underlying22 Try.underlying5 Try.underlying9 hC9
  have hs2 := Kd.C_string (P := Try.prog) (A := some ⟨w.heap.size, 0, none⟩) (c := N) Try.underlying22 Try.underlying5 Try.underlying9 ht9
  clear ht9 hC9 ht8 hC8 hD9 hBB8
  obtain ⟨i0, hi, _, _, _⟩ := info_parts info_u8
  have hcut := cut_cap (P := Try.prog) 22 5 .i64 Try.underlying22 hi (some ⟨w.heap.size, 0, none⟩) N N (1048576 : Int) (by omega) (by omega)
  rw [show (1048576 : Int).toNat = 1048576 from rfl] at hcut
  clear hi
  refine wp_region_still_tail 49 (by kernel_rfl) (by kernel_rfl) ?_
  simp only [List.take_succ_cons, List.take_zero, List.drop_succ_cons, List.drop_zero]
  change wpStill _ _ w8.drew _ _ _
  change wpStill _ _ _ (fun a' => wpList _ _ _ _ a' w8.drew) _ _
  generalize w8.drew = w9 at *
  repeat (first | still_step | still_call (num_still _ _))
  refine wpStill_nil ?_
  go_wp2_with fail
  refine (marquetrylaw15_works.calls true _ rfl).mono ?_
  rintro e wb ⟨rfl, hBb⟩
  have hBBb := below_step hBB9 hBb
  go_wp2_with fail
  go_ret
  exact ⟨rfl, hBBb⟩


end Go.Proofs.Ytkpmjijhgmmjoaa.H
