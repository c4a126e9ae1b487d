/- Texts of the claim, packed: H13. -/
import Derived.RangeFuncBox
import Derived.RangeFuncFrom
import Derived.Test.YtnbmgljcnbhinaaDoorZRecordsCheck7
import Derived.Test.YtnbmgljcnbhinaaDoorZRecordsCheck11
section
-- Laid by this session's hprint.py, out of the kit's print.py and texts of the session. Not trusted: Lean checks it.
namespace Go.Proofs.YtnbmgljcnbhinaaDoor.H
open Go.RowKit Go.Proofs.YtnbmgljcnbhinaaDoorW.PrintWords Go.Proofs.YtnbmgljcnbhinaaDoorW.PrintLast Go.Proofs.YtnbmgljcnbhinaaDoorW.PrintMore
attribute [local go_sem] max2_int min2_int max_two min_two max_three min_three max_four min_four   -- for this text's walks alone
set_option linter.unusedVariables false
set_option linter.unusedSimpArgs false

-- OVPART Derived.RangeFuncFrom Derived.RangeFuncBox
/-! ### records_Size: function 25 -/
open Go.Shelf
attribute [local go_sem] Oper.semAt_some
def records_Size.f (l0_0 : List S70) : Option Int := some ((min (numF l0_0) 1048576 : Nat) : Int)
set_option maxRecDepth 100000 in
set_option maxHeartbeats 4000000 in
theorem records_Size.calls (A0_0 : Option Addr) (c0_0 : Nat) (l0_0 : List (S70)) (r : Int) (w : World) (hr0_0 : Kd.C k70 w A0_0 l0_0.length l0_0) (hc0_0 : l0_0.length ≤ c0_0) (h : records_Size.f l0_0 = some r) :
    Calls Tryd.prog 25 #[.agg #[.slice A0_0 l0_0.length c0_0]] w fun e w' => e = .returned (.int .i64 r) ∧ Below w.heap.size w w' := by
  unfold records_Size.f at h
  obtain rfl := Option.some.inj h
  clear h
  refine (callsIn_wide (n := 6)).1 ?_
  refine callsIn_of_wp_marks Tryd.func25 rfl trivial ?_ rfl
  simp only [Tryd.ntmps25, List.size_toArray, List.length_cons, List.length_nil, Nat.reduceAdd, Nat.reduceSub, Array.replicate_succ, Array.replicate_zero, List.push_toArray, List.append_toArray, List.nil_append, List.cons_append]
  gi_wp2
  refine ⟨trivial, ?_⟩
  refine (fields_in _ _ _ _ _).mono ?_
  rintro e w' ⟨rfl, rfl⟩
  gi_wp2
  have bN := (Boxed.new (w.alloc (.cells #[.slice A0_0 l0_0.length c0_0] 42)) 3 (.int .i64 0)).alloc (.cells #[.slice A0_0 l0_0.length c0_0] 40)
  have bC := blk_cell (blk_new ((w.alloc (.cells #[.slice A0_0 l0_0.length c0_0] 42)).alloc (.cells #[.int .i64 0] 3)) (.cells #[.slice A0_0 l0_0.length c0_0] 40)) 0
  simp only [World.size_alloc] at bN bC
  have hB0 : Below w.heap.size w (((w.alloc (.cells #[.slice A0_0 l0_0.length c0_0] 42)).alloc (.cells #[.int .i64 0] 3)).alloc (.cells #[.slice A0_0 l0_0.length c0_0] 40)) := below_alloc (below_alloc (below_alloc (Below.refl _ _) _) _) _
  have hsz : (((w.alloc (.cells #[.slice A0_0 l0_0.length c0_0] 42)).alloc (.cells #[.int .i64 0] 3)).alloc (.cells #[.slice A0_0 l0_0.length c0_0] 40)).heap.size = w.heap.size + 1 + 1 + 1 := by simp only [World.size_alloc]
  generalize (((w.alloc (.cells #[.slice A0_0 l0_0.length c0_0] 42)).alloc (.cells #[.int .i64 0] 3)).alloc (.cells #[.slice A0_0 l0_0.length c0_0] 40)) = w1 at *
  refine wpIn_rangeFunc_ownF rfl (by omega) (gf := 67) (lb := #[.pointer (some ⟨w.heap.size + 1 + 1, 0, none⟩)]) rfl trivial (enters_of Tryd.func67 (by kernel_rfl) rfl)
    (fields_stops 5 (w.heap.size + 1 + 1) (w.heap.size + 1) w A0_0 c0_0 l0_0 hr0_0 _ hB0 (by omega) (by omega) bC) (fun h k => KeepN.trans h k) (fun W l o o' hl ho hc _ => KeepN.put o' (by omega) ho hc) (Below.refl _ _) (fun _ => rfl)
    (fun pre W => ((W.cell? ⟨w.heap.size + 1, 0, none⟩ = some (.int .i64 (pre.length : Nat)) ∧ W.frozen? ⟨w.heap.size + 1, 0, none⟩ = false) ∧ Below w.heap.size w W) ∧ pre.length < 1048576)
    (fun c pre W => (((W.cell? ⟨w.heap.size + 1, 0, none⟩ = some (.int .i64 1048576) ∧ W.frozen? ⟨w.heap.size + 1, 0, none⟩ = false) ∧ Below w.heap.size w W)) ∧ c = .exit 0 ∧ pre.length = 1048576)
    (OwnFrom.and (OwnFrom.and (Own.from (fun s A B row hs hg hr => ⟨cell_kept hs.1 hg hr, (frozen_kept hs.1 hg hr).trans hs.2⟩) _) (ownFrom_below (Nat.le_refl _) (by omega))) (fun _ _ _ _ hs _ _ => hs))
    (fun c => OwnFrom.and (OwnFrom.and (Own.from (fun s A B row hs hg hr => ⟨cell_kept hs.1 hg hr, (frozen_kept hs.1 hg hr).trans hs.2⟩) _) (ownFrom_below (Nat.le_refl _) (by omega))) (fun _ _ _ _ hs _ _ => hs))
    ⟨⟨⟨bN.cell, bN.frozen⟩, hB0⟩, by decide⟩
    (fun x : Value => { tmps := #[.agg #[.slice A0_0 l0_0.length c0_0], .pointer (some ⟨w.heap.size, 0, none⟩), .int .i64 0, .pointer (some ⟨w.heap.size + 1, 0, none⟩), .pointer (some ⟨w.heap.size, 0, none⟩), .slice A0_0 l0_0.length c0_0, .func (.func 67) #[] #[.pointer (some ⟨w.heap.size + 1 + 1, 0, none⟩)], x, undef, undef, undef, undef, undef], defers := [] }) ?assign ?body ?done ?stop
  case assign =>
    intro l x W K hK
    gi_wp2
    simpa using hK
  case body =>
    rintro l pre x W ⟨⟨⟨hc, hf⟩, hB⟩, hlt⟩ hl
    have hw : IntKind.i64.wrap ((pre.length : Int) + 1) = (pre.length : Int) + 1 := by rw [IntKind.wrap_i64]; omega
    have hbs2 : Below w.heap.size W (W.setCell ⟨w.heap.size + 1, 0, none⟩ (.int .i64 ((pre.length : Int) + 1))) := (Below.refl w.heap.size W).setCell (p := ⟨w.heap.size + 1, 0, none⟩) (by show w.heap.size ≤ w.heap.size + 1; omega) _
    have hcs : (W.setCell ⟨w.heap.size + 1, 0, none⟩ (.int .i64 ((pre.length : Int) + 1))).cell? ⟨w.heap.size + 1, 0, none⟩ = some (.int .i64 ((pre.length : Int) + 1)) := World.cell?_setCell_same' _ _ _ (by rw [hc]; rfl)
    have hfs : (W.setCell ⟨w.heap.size + 1, 0, none⟩ (.int .i64 ((pre.length : Int) + 1))).frozen? ⟨w.heap.size + 1, 0, none⟩ = false := by rw [World.frozen?_setCell]; exact hf
    have hko := KeepsOthers.setCell W ⟨w.heap.size + 1, 0, none⟩ (.int .i64 ((pre.length : Int) + 1))
    have hkp : KeepN w.heap.size (w.heap.size + 1) W (W.setCell ⟨w.heap.size + 1, 0, none⟩ (.int .i64 ((pre.length : Int) + 1))) := ⟨hbs2, by rw [World.size_setCell]; exact Nat.le_refl _, fun k o hk _ hne => (Below.heap_setCell W _ _ k hne).trans hk⟩
    have HFIN := Lib.hid (And.intro hko (And.intro hkp (And.intro (And.intro hcs hfs) (hB.trans hbs2))))
    have HCS := Lib.hid hcs
    clear hbs2 hfs hko hkp hB
    have HLT := Lib.hid hlt
    clear hlt
    by_cases hge : (1048576 : Int) ≤ (pre.length : Int) + 1
    · gi_wp2
      have hend : pre.length + 1 = 1048576 := by have := HLT.out; omega
      exact ⟨HFIN.out.1, ⟨⟨⟨by rw [HFIN.out.2.2.1.1]; congr 2; omega, HFIN.out.2.2.1.2⟩, HFIN.out.2.2.2⟩, rfl, by rw [List.length_append]; exact hend⟩⟩
    · gi_wp2
      have := HLT.out
      exact ⟨HFIN.out.1, HFIN.out.2.1, ⟨⟨by rw [List.length_append]; exact HFIN.out.2.2.1.1, HFIN.out.2.2.1.2⟩, HFIN.out.2.2.2⟩, by rw [List.length_append, List.length_singleton]; omega⟩
  case done =>
    rintro D ys W hD hys ⟨⟨⟨hc, hf⟩, hB⟩, hlt⟩ hK
    gi_wp2
    refine ⟨by simp, .inl ⟨_, _, rfl, run_takeDeferred hK, ?_⟩⟩
    exact ⟨_, results_tmp rfl _ _ _, by rw [hys] at hlt; show Ending.returned (.int .i64 (numF l0_0 : Nat)) = _; rw [Nat.min_eq_left (by omega)], hB.trans (belowK_b (w := w) (Nat.le_refl _) W D _ _ (by omega) hK rfl rfl)⟩
  case stop =>
    rintro D c pre W hD hpre ⟨⟨⟨hc, hf⟩, hB⟩, rfl, hlen⟩ hK
    gi_wp2
    refine ⟨by simp, .inl ⟨_, _, rfl, run_takeDeferred hK, ?_⟩⟩
    exact ⟨_, results_tmp rfl _ _ _, by rw [Nat.min_eq_right (by omega)]; rfl, hB.trans (belowK_b (w := w) (Nat.le_refl _) W D _ _ (by omega) hK rfl rfl)⟩


end Go.Proofs.YtnbmgljcnbhinaaDoor.H
end
