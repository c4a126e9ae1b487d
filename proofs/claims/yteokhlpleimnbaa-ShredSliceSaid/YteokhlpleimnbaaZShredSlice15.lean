/- Texts of the claim, packed: H27, H28. -/
import Derived.Lib.Hide
import Derived.RangeFuncBox
import Derived.RangeFuncFrom
import Derived.Test.YteokhlpleimnbaaZShredSlice5
import Derived.Test.YteokhlpleimnbaaZShredSlice7
import Derived.Test.YteokhlpleimnbaaZShredSlice14
section
-- Laid by this session's hprint.py, out of the kit's print.py and texts of the session. Not trusted: Lean checks it.
namespace Go.Proofs.Yteokhlpleimnbaa.H
open Go.RowKit Go.Proofs.YteokhlpleimnbaaW.PrintWords Go.Proofs.YteokhlpleimnbaaW.PrintLast Go.Proofs.YteokhlpleimnbaaW.PrintMore
attribute [local go_sem] max2_int min2_int max_two min_two max_three min_three max_four min_four
set_option linter.unusedVariables false
set_option linter.unusedSimpArgs false

-- OVPART Derived.RangeFuncFrom Derived.RangeFuncBox
/-! ### slices_AppendSeq_int_int: function 38 -/
open Go.Shelf
attribute [local go_sem] Oper.semAt_some
def vals_ (l : List Nat) : List Value := l.map (fun x => Value.int .i64 (x : Nat))
set_option maxRecDepth 100000 in
set_option maxHeartbeats 4000000 in
theorem append_starts (B : Nat) (A : Option Addr) (c : Nat) (rs : List Int) (w : World) (hlen : rs.length ≤ 1000000) (hR : Kd.C (Kd.int .i64) w A rs.length rs) (hB : B < w.heap.size) (hc : w.cell? ⟨B, 0, none⟩ = some (.slice A rs.length c)) :
    Calls Try.prog 38 #[.slice none 0 0, .func (.func 39) #[] #[.pointer (some ⟨B, 0, none⟩)]] w fun e w' => ∃ v, e = .returned v ∧ Kd.R (Kd.int .i64) 3 w' w.heap.size (fun _ => True) v ((zs_ rs rs.length).map (fun x : Nat => (x : Int))) ∧ Below w.heap.size w w' := by
  obtain ⟨i0, hi, hz0, hz1, hz2⟩ := info_parts info_int_
  refine (callsIn_wide (n := 6)).1 ?_
  refine callsIn_of_wp_marks Try.func38 rfl trivial ?_ rfl
  simp only [Try.ntmps38, List.size_toArray, List.length_cons, List.length_nil, Nat.reduceAdd, Nat.reduceSub, Array.replicate_succ, Array.replicate_zero, List.push_toArray, List.append_toArray, List.nil_append, List.cons_append]
  gi_wp2
  have bO := Boxed.new w 25 (.slice none 0 0)
  have hB0 : Below w.heap.size w (w.alloc (.cells #[.slice none 0 0] 25)) := below_alloc (Below.refl _ _) _
  have hc0 : (w.alloc (.cells #[.slice none 0 0] 25)).cell? ⟨B, 0, none⟩ = some (.slice A rs.length c) := (hB0.cell (p := ⟨B, 0, none⟩) hB).trans hc
  have hsz : (w.alloc (.cells #[.slice none 0 0] 25)).heap.size = w.heap.size + 1 := World.size_alloc _ _
  generalize (w.alloc (.cells #[.slice none 0 0] 25)) = w1 at *
  refine wpIn_rangeFunc_ownF rfl (by omega) (gf := 39) (lb := #[.pointer (some ⟨B, 0, none⟩)]) rfl trivial (enters_of Try.func39 (by kernel_rfl) rfl)
    (starts_stops 5 (by omega) B w A c rs hlen hR _ hB0 (by omega) hc0) belowK_t (belowK_b (by omega)) (Below.refl _ _) (fun _ => rfl)
    (fun pre W => (∃ v, Boxed W w.heap.size 25 v ∧ W.ownsRow w.heap.size 3 1 v pre.length (vals_ pre) ∧ (v = .slice none 0 0 ↔ pre = [])) ∧ Below w.heap.size w W)
    (fun _ _ _ => False)
    (OwnFrom.and (Own.from (holdsRow_own w.heap.size w.heap.size 25 3 1 (fun pre => pre.length) (fun pre => vals_ pre) (fun pre v => v = .slice none 0 0 ↔ pre = [])) _) (ownFrom_below (Nat.le_refl _) (by omega)))
    (fun _ _ _ _ _ hs _ _ => hs)
    ⟨⟨_, bO, World.ownsRow_nil _ _ _ _, by simp⟩, hB0⟩
    (fun x : Nat => { tmps := #[.slice none 0 0, .func (.func 39) #[] #[.pointer (some ⟨B, 0, none⟩)], .pointer (some ⟨w.heap.size, 0, none⟩), undef, .slice none 0 0, .int .i64 (x : Nat), .func (.func 39) #[] #[.pointer (some ⟨B, 0, none⟩)], .int .i64 (x : Nat), undef, undef, undef, undef, undef], defers := [] }) ?assign ?body ?done ?stop
  case assign =>
    intro l x W K hK
    gi_wp2
    first | exact hK | simpa using hK
  case body =>
    rintro l pre x W ⟨⟨v, hv, hrow, hnil⟩, hBW⟩ hl
    have hc := hv.cell
    clear hnil
    have hmax : 1000001 ≤ maxLen := by decide
    gi_wp2_with (gi_at_builtin; refine wpListIn_append_own _ rfl _ _ 25 rfl w.heap.size 3 i0 (.int .i64 0) 1 8 Try.underlying25 hi hz0 hz1 hz2 rfl (by decide) _ _ _ rfl (hrow.alloc _) ⟨W.heap.size, 0, none⟩ 1 1 [.int .i64 (x : Nat)] rfl rfl (cell_one_new _ _ _) (by simp [Value.oneCell']) (by omega) (by omega) (by have := hBW.size; rw [World.size_alloc]; omega) ?_; intro v' w1 hown' hgrow _; obtain ⟨g', cap', rfl⟩ := ownsRow_succ hown'; obtain ⟨hv1, hv2, hr2, hk2, hb2⟩ := hv.appended (by decide) hrow hBW.size (Nat.le_refl _) hown' hgrow; have hc1 := hv1.cell; have hf1 := hv1.frozen)
    exact ⟨hk2, hb2, ⟨_, hv2, by have e : vals_ (pre ++ [x]) = vals_ pre ++ [.int .i64 (x : Nat)] := by simp [vals_]
                                 rw [e, List.length_append]; exact hr2, by simp⟩, hBW.trans hb2⟩
  case done =>
    rintro D ys W hD rfl ⟨⟨v, hv, hrow, hnil⟩, hBW⟩ hK
    have hc := hv.cell
    gi_wp2
    refine ⟨by simp, .inl ⟨_, _, rfl, run_takeDeferred hK, ?_⟩⟩
    refine ⟨_, results_tmp rfl _ _ _, v, rfl, Kd.R_of_own ?_ (fun _ _ => trivial), hBW.trans (belowK_b (w := w) (Nat.le_refl _) W D _ _ (by omega) hK rfl rfl)⟩
    have h := ownsRow_putObj hrow (.deferred none) hK rfl
    rw [List.length_map]
    have e : encs (Value.int .i64) ((zs_ rs rs.length).map (fun x : Nat => (x : Int))) = vals_ (zs_ rs rs.length) := by simp [encs, vals_]
    rw [e]
    exact h
  case stop =>
    rintro D c pre W _ _ h _
    exact h.elim


end Go.Proofs.Yteokhlpleimnbaa.H
end
section
namespace Go.Proofs.Yteokhlpleimnbaa.H
open Go.RowKit Go.Proofs.YteokhlpleimnbaaW.PrintWords Go.Proofs.YteokhlpleimnbaaW.PrintLast Go.Proofs.YteokhlpleimnbaaW.PrintMore
attribute [local go_sem] max2_int min2_int max_two min_two max_three min_three max_four min_four
set_option linter.unusedVariables false
set_option linter.unusedSimpArgs false

-- OVPART Derived.Lib.Hide
set_option maxRecDepth 100000 in
set_option maxHeartbeats 4000000 in
theorem collect_starts (B : Nat) (A : Option Addr) (c : Nat) (rs : List Int) (w : World) (hlen : rs.length ≤ 1000000) (hR : Kd.C (Kd.int .i64) w A rs.length rs) (hB : B < w.heap.size) (hc : w.cell? ⟨B, 0, none⟩ = some (.slice A rs.length c)) :
  Calls Try.prog 19 #[.func (.func 39) #[] #[.pointer (some ⟨B, 0, none⟩)]] w fun e w' => ∃ v, e = .returned v ∧ Kd.R (Kd.int .i64) 3 w' w.heap.size (fun _ => True) v ((zs_ rs rs.length).map (fun x : Nat => (x : Int))) ∧ Below w.heap.size w w' := by
 go_enter Try.func19, Try.ntmps19
 go_wp2_with fail
 refine (append_starts B A c rs _ hlen hR hB hc).mono ?_
 rintro e w1 ⟨v, rfl, hv, hb⟩
 go_wp2_with fail
 go_ret
 exact ⟨v, rfl, hv, hb⟩


end Go.Proofs.Yteokhlpleimnbaa.H
end
