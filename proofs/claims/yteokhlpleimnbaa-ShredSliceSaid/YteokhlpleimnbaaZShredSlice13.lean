/- Texts of the claim, packed: H25. -/
import Derived.BigRegion
import Derived.Deep.Cut
import Derived.Deep.RegionHeld3
import Derived.Deep.RegionWith
import Derived.Lib.Hide
import Derived.Test.YteokhlpleimnbaaZShredSlice5
import Derived.Test.YteokhlpleimnbaaZShredSlice7
import Derived.Test.YteokhlpleimnbaaZShredSlice12
section
-- Laid by this session's hprint.py, out of the kit's print.py and texts of the session. Not trusted: Lean checks it.
namespace Go.Proofs.Yteokhlpleimnbaa.H
open Go.RowKit Go.Proofs.YteokhlpleimnbaaW.PrintWords Go.Proofs.YteokhlpleimnbaaW.PrintLast Go.Proofs.YteokhlpleimnbaaW.PrintMore
attribute [local go_sem] max2_int min2_int max_two min_two max_three min_three max_four min_four
set_option linter.unusedVariables false
set_option linter.unusedSimpArgs false

-- OVPART Derived.Lib.Hide Derived.Deep.RegionHeld3 Derived.BigRegion Derived.Deep.RegionWith Derived.Deep.Cut
def shred_Copy.f (l0_0 l0_1 : List Int) (l0_2 : List S58) : Option (List Int × List Int × List S58) :=
 if l0_0.length ≤ 1000000 ∧ l0_1.length ≤ 1000000 ∧ l0_2.length ≤ 1000000 then some (l0_0, l0_1, l0_2) else none
set_option maxHeartbeats 8000000 in
set_option maxRecDepth 100000 in
theorem shred_Copy.calls (A0_0 : Option Addr) (c0_0 : Nat) (l0_0 : List Int) (A0_1 : Option Addr) (c0_1 : Nat) (l0_1 : List Int) (A0_2 : Option Addr) (c0_2 : Nat) (l0_2 : List (S58)) (r1 : List Int) (r2 : List Int) (r3 : List (S58)) (w : World) (hr0_0 : Kd.C (Kd.int .i64) w A0_0 l0_0.length l0_0) (hc0_0 : l0_0.length ≤ c0_0) (hr0_1 : Kd.C (Kd.int .i64) w A0_1 l0_1.length l0_1) (hc0_1 : l0_1.length ≤ c0_1) (hr0_2 : Kd.C k58 w A0_2 l0_2.length l0_2) (hc0_2 : l0_2.length ≤ c0_2) (h : shred_Copy.f l0_0 l0_1 l0_2 = some (r1, r2, r3)) :
  Calls Try.prog 14 #[.agg #[.slice A0_0 l0_0.length c0_0, .slice A0_1 l0_1.length c0_1, .slice A0_2 l0_2.length c0_2]] w fun e w' => ∃ v0_ v1_ v2_ : Value, e = .returned (.agg #[v0_, v1_, v2_]) ∧ Kd.R (Kd.int .i64) 3 w' w.heap.size (fun k_ => some k_ ≠ (v1_ : Value).ownBlock) v0_ r1 ∧ Kd.R (Kd.int .i64) 3 w' w.heap.size (fun k_ => some k_ ≠ (v0_ : Value).ownBlock) v1_ r2 ∧ Kd.R k58 58 w' w.heap.size (fun _ => True) v2_ r3 ∧ Below w.heap.size w w' := by
 unfold shred_Copy.f at h
 split at h
 case isFalse => cases h
 case isTrue hlen =>
 simp only [Option.some.injEq, Prod.mk.injEq] at h
 obtain ⟨rfl, rfl, rfl⟩ := h
 obtain ⟨m0, m1, m2⟩ := hlen
 have hS := (Two_.start w (.slice A0_0 l0_0.length c0_0) (.slice A0_1 l0_1.length c0_1) (.slice A0_2 l0_2.length c0_2) (.slice none 0 0) (.slice none 0 0) (.slice none 0 0)).drew
 go_enter Try.func14, Try.ntmps14
 go_wp2_with fail
 refine wp_region_held_drew (S := (fun W => (W.cell? ⟨w.heap.size, 0, none⟩ = some (.slice A0_0 l0_0.length c0_0) ∧ W.cell? ⟨w.heap.size, 1, none⟩ = some (.slice A0_1 l0_1.length c0_1) ∧ W.cell? ⟨w.heap.size, 2, none⟩ = some (.slice A0_2 l0_2.length c0_2)) ∧ (W.frozen? ⟨w.heap.size + 1, 0, none⟩ = false ∧ W.frozen? ⟨w.heap.size + 1, 1, none⟩ = false ∧ W.frozen? ⟨w.heap.size + 1, 2, none⟩ = false))) (by kernel_rfl) hS.held (fun hHeld => ?_)
 generalize ((w.alloc (.cells #[.slice A0_0 l0_0.length c0_0, .slice A0_1 l0_1.length c0_1, .slice A0_2 l0_2.length c0_2] 28)).alloc (.cells #[.slice none 0 0, .slice none 0 0, .slice none 0 0] 28)).drew = W0 at *
 refine tkY 0 (some 3) rfl rfl (by kernel_rfl) (by kernel_rfl) (by kernel_rfl) (fun _ _ _ h => h) (by rfl) (v := ?tkv0) ?tky0 (by assumption) rfl ?tkr0
 case tky0 =>
  intro W' hSw
  try dsimp only at hSw
  go_simp
  first | done | with_reducible rfl
 simp only [Act.put, List.setIfInBounds_toArray, List.set_cons_zero, List.set_cons_succ]
 refine tkY 1 (some 4) rfl rfl (by kernel_rfl) (by kernel_rfl) (by kernel_rfl) (fun _ _ _ h => h) (by rfl) (v := ?tkv1) ?tky1 (by assumption) rfl ?tkr1
 case tky1 =>
  intro W' hSw
  try dsimp only at hSw
  go_simp
  first | done | with_reducible rfl
 simp only [Act.put, List.setIfInBounds_toArray, List.set_cons_zero, List.set_cons_succ]
 refine tkY 3 (some 6) rfl rfl (by kernel_rfl) (by kernel_rfl) (by kernel_rfl) (fun _ _ _ h => h) (by rfl) (v := ?tkv3) ?tky3 (by assumption) rfl ?tkr3
 case tky3 =>
  intro W' hSw
  try dsimp only at hSw
  go_simp
  first | done | with_reducible rfl
 simp only [Act.put, List.setIfInBounds_toArray, List.set_cons_zero, List.set_cons_succ]
 refine tkY 4 (some 7) rfl rfl (by kernel_rfl) (by kernel_rfl) (by kernel_rfl) (fun _ _ _ h => h) (by rfl) (v := ?tkv4) ?tky4 (by assumption) rfl ?tkr4
 case tky4 =>
  intro W' hSw
  try dsimp only at hSw
  go_simp
  first | done | with_reducible rfl
 simp only [Act.put, List.setIfInBounds_toArray, List.set_cons_zero, List.set_cons_succ]
 refine tkY 6 (some 9) rfl rfl (by kernel_rfl) (by kernel_rfl) (by kernel_rfl) (fun _ _ _ h => h) (by rfl) (v := ?tkv6) ?tky6 (by assumption) rfl ?tkr6
 case tky6 =>
  intro W' hSw
  try dsimp only at hSw
  go_simp
  first | done | with_reducible rfl
 simp only [Act.put, List.setIfInBounds_toArray, List.set_cons_zero, List.set_cons_succ]
 refine tkY 7 (some 10) rfl rfl (by kernel_rfl) (by kernel_rfl) (by kernel_rfl) (fun _ _ _ h => h) (by rfl) (v := ?tkv7) ?tky7 (by assumption) rfl ?tkr7
 case tky7 =>
  intro W' hSw
  try dsimp only at hSw
  go_simp
  first | done | with_reducible rfl
 simp only [Act.put, List.setIfInBounds_toArray, List.set_cons_zero, List.set_cons_succ]
 refine wpAnyH_ready (rs := [2]) (by kernel_rfl) (by simp) (AllReadyH.cons (at_drop rfl) (fun KC hKC => ?_) AllReadyH.nil)
 go_simp
 refine (clone_ints A0_0 c0_0 l0_0 _ (Kd.C_below hr0_0 hS.below) hc0_0 m0).mono ?_
 rintro e w1 ⟨v0, rfl, R0, hB1⟩
 have hS1 := hS.next hB1
 obtain ⟨D0, d0, rfl⟩ := Kd.R_slice R0
 refine hKC.out _ _ hS1.held (fun hHeld => ?_)
 clear hKC KC
 try simp only [Act.put, List.setIfInBounds_toArray, List.set_cons_zero, List.set_cons_succ]
 refine wpAnyH_ready (rs := [5]) (by kernel_rfl) (by simp) (AllReadyH.cons (at_drop rfl) (fun KC hKC => ?_) AllReadyH.nil)
 go_simp
 refine (clone_ints A0_1 c0_1 l0_1 _ (Kd.C_below hr0_1 hS1.below) hc0_1 m1).mono ?_
 rintro e w2 ⟨v1, rfl, R1, hB2⟩
 have hS2 := hS1.next hB2
 obtain ⟨D1, d1, rfl⟩ := Kd.R_slice R1
 refine hKC.out _ _ hS2.held (fun hHeld => ?_)
 clear hKC KC
 try simp only [Act.put, List.setIfInBounds_toArray, List.set_cons_zero, List.set_cons_succ]
 refine wpAnyH_ready (rs := [8]) (by kernel_rfl) (by simp) (AllReadyH.cons (at_drop rfl) (fun KC hKC => ?_) AllReadyH.nil)
 go_simp
 refine (clone_datum A0_2 c0_2 l0_2 _ (Kd.C_below hr0_2 hS2.below) hc0_2 m2).mono ?_
 rintro e w3 ⟨v2, rfl, R2, hB3⟩
 have hS3 := hS2.next hB3
 obtain ⟨D2, d2, rfl⟩ := Kd.R_slice R2
 refine hKC.out _ _ hS3.held (fun hHeld => ?_)
 clear hKC KC
 try simp only [Act.put, List.setIfInBounds_toArray, List.set_cons_zero, List.set_cons_succ]
 refine tkY 9 (some 12) rfl rfl (by kernel_rfl) (by kernel_rfl) (by kernel_rfl) (fun _ _ _ h => h) (by rfl) (v := ?tkv9) ?tky9 (by assumption) rfl ?tkr9
 case tky9 =>
  intro W' hSw
  try dsimp only at hSw
  go_simp
  first | done | with_reducible rfl
 simp only [Act.put, List.setIfInBounds_toArray, List.set_cons_zero, List.set_cons_succ]
 obtain ⟨_, _, _, y0, y1, y2⟩ := hS3.cells
 refine wpAnyH_ready (rs := [10]) (by kernel_rfl) (by simp) (AllReadyH.cons (at_drop rfl) (fun KC hKC => ?_) AllReadyH.nil)
 go_simp
 refine hKC.out _ _ (hS3.put _ _ _).held (fun hHeld => ?_)
 clear hKC KC
 try simp only [Act.put, List.setIfInBounds_toArray, List.set_cons_zero, List.set_cons_succ]
 refine wpAnyH_done (by kernel_rfl) ?_ _
 go_wp2_with fail
 have q0 := Kd.R_below (Kd.R_elder R0 R1 hB2) hB3
 have q1 := Kd.R_below (Kd.R_newR R1 R0) hB3
 have z0 := Kd.R_lower q0 (below_size hS.below)
 have z1 := Kd.R_lower q1 (below_size hS1.below)
 have z2 := Kd.R_lower R2 (below_size hS2.below)
 refine bodyPost_ret (results_cell_row rfl _ _ (w.heap.size + 1) 28 #[.slice D0 l0_0.length d0, .slice D1 l0_1.length d1, .slice D2 l0_2.length d2] (0, 0) _ rfl (putC hS3.b1 _ _ _) Try.underlying28 rfl (by kernel_rfl)) rfl ?_
 exact ⟨_, _, _, rfl, Kd.R_mono (setR z0 hS3.b1 (by decide) _ _ _) (fun _ hk => hk.2), Kd.R_mono (setR z1 hS3.b1 (by decide) _ _ _) (fun _ hk => hk.2), setR z2 hS3.b1 (by decide) _ _ _, (hS3.put _ _ _).below⟩


end Go.Proofs.Yteokhlpleimnbaa.H
end
