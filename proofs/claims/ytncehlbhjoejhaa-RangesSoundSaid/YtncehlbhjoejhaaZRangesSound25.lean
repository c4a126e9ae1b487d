/- Texts of the claim, packed: H52. -/
import Derived.BigRegion
import Derived.Deep.Cut
import Derived.Deep.RegionHeld3
import Derived.Deep.RegionWith
import Derived.Lib.Hide
import Derived.Test.YtncehlbhjoejhaaZRangesSound4
import Derived.Test.YtncehlbhjoejhaaZRangesSound17
import Derived.Test.YtncehlbhjoejhaaZRangesSound18
import Derived.Test.YtncehlbhjoejhaaZRangesSound24
section
-- Laid by this session's hprint.py, out of the kit's print.py and texts of the session. Not trusted: Lean checks it.
namespace Go.Proofs.Ytncehlbhjoejhaa.H
open Go.RowKit Go.Proofs.YtncehlbhjoejhaaW.PrintWords Go.Proofs.YtncehlbhjoejhaaW.PrintLast Go.Proofs.YtncehlbhjoejhaaW.PrintMore
attribute [local go_sem] max2_int min2_int max_two min_two max_three min_three max_four min_four   -- for this text's walks alone
set_option linter.unusedVariables false
set_option linter.unusedSimpArgs false

-- OVPART Derived.Lib.Hide Derived.Deep.RegionHeld3 Derived.BigRegion Derived.Deep.RegionWith Derived.Deep.Cut
/-! ### marquetryref22_Check: function 17 -/
structure RkC (w W : World) (t0 t1 n : Int) (has : Bool) (least most : ByteArray) : Prop where
  b0 : W.heap[w.heap.size]? = some (.cells #[.int .i64 t0, .int .i64 t1] 24 (0, 0))
  b1 : W.heap[w.heap.size + 1]? = some (.cells #[.int .i64 n, .bool has, .string least, .string most] 31 (0, 0))
  below : Below w.heap.size w W
theorem RkC.next {w W W' : World} {t0 t1 n : Int} {has : Bool} {least most : ByteArray} (h : RkC w W t0 t1 n has least most) (hb : Below W.heap.size W W') : RkC w W' t0 t1 n has least most := ⟨blk_below h.b0 hb, blk_below h.b1 hb, below_step h.below hb⟩
theorem RkC.start (w : World) (t0 t1 n : Int) (has : Bool) (least most : ByteArray) : RkC w ((w.alloc (.cells #[.int .i64 t0, .int .i64 t1] 24)).alloc (.cells #[.int .i64 n, .bool has, .string least, .string most] 31)) t0 t1 n has least most := by
  refine ⟨blk_alloc (blk_new w _) _, ?_, below_alloc (below_alloc (Below.refl _ _) _) _⟩
  have h := blk_new (w.alloc (.cells #[.int .i64 t0, .int .i64 t1] 24)) (.cells #[.int .i64 n, .bool has, .string least, .string most] 31)
  rw [World.size_alloc] at h
  exact h
theorem RkC.cells {w W : World} {t0 t1 n : Int} {has : Bool} {least most : ByteArray} (h : RkC w W t0 t1 n has least most) : W.cell? ⟨w.heap.size, 0, none⟩ = some (.int .i64 t0) ∧ W.cell? ⟨w.heap.size, 1, none⟩ = some (.int .i64 t1) ∧
    W.cell? ⟨w.heap.size + 1, 0, none⟩ = some (.int .i64 n) ∧ W.cell? ⟨w.heap.size + 1, 1, none⟩ = some (.bool has) ∧ W.cell? ⟨w.heap.size + 1, 2, none⟩ = some (.string least) ∧ W.cell? ⟨w.heap.size + 1, 3, none⟩ = some (.string most) :=
  ⟨blk_cell h.b0 0, blk_cell h.b0 1, blk_cell h.b1 0, blk_cell h.b1 1, blk_cell h.b1 2, blk_cell h.b1 3⟩
theorem RkC.far {w W : World} {B : Nat} {t0 t1 n : Int} {has : Bool} {least most : ByteArray} (h : RkC w W t0 t1 n has least most) (hB : w.heap.size + 1 < B) (k : Nat) (v : Value) : RkC w (W.setCell ⟨B, k, none⟩ v) t0 t1 n has least most :=
  ⟨blk_far h.b0 (p := ⟨B, k, none⟩) (by show w.heap.size ≠ B; omega) v, blk_far h.b1 (p := ⟨B, k, none⟩) (by show w.heap.size + 1 ≠ B; omega) v, h.below.setCell (p := ⟨B, k, none⟩) (by show w.heap.size ≤ B; omega) v⟩
structure RkA (w W : World) (B : Nat) (t0 t1 n : Int) (has : Bool) (least most : ByteArray) (k i : Int) (t : ByteArray) : Prop where
  rc : RkC w W t0 t1 n has least most
  lt : w.heap.size + 1 < B
  ka : W.heap[B]? = some (.cells #[.int .i64 k, .int .i64 i, .string t] 29 (0, 0))
theorem RkA.next {w W W' : World} {t0 t1 n : Int} {has : Bool} {least most : ByteArray} {B : Nat} {k i : Int} {t : ByteArray} (h : RkA w W B t0 t1 n has least most k i t) (hb : Below W.heap.size W W') : RkA w W' B t0 t1 n has least most k i t := ⟨h.rc.next hb, h.lt, blk_below h.ka hb⟩
theorem RkA.start {w W : World} {t0 t1 n : Int} {has : Bool} {least most : ByteArray} (h : RkC w W t0 t1 n has least most) (k i : Int) (t : ByteArray) : RkA w (W.alloc (.cells #[.int .i64 k, .int .i64 i, .string t] 29)) W.heap.size t0 t1 n has least most k i t :=
  ⟨h.next (below_alloc (Below.refl _ _) _), blk_lt h.b1, blk_new W _⟩
theorem RkA.far {w W : World} {B B' : Nat} {t0 t1 n : Int} {has : Bool} {least most : ByteArray} {k i : Int} {t : ByteArray} (h : RkA w W B t0 t1 n has least most k i t) (hB : B < B') (j : Nat) (v : Value) : RkA w (W.setCell ⟨B', j, none⟩ v) B t0 t1 n has least most k i t :=
  ⟨h.rc.far (Nat.lt_trans h.lt hB) j v, h.lt, blk_far h.ka (p := ⟨B', j, none⟩) (by show B ≠ B'; omega) v⟩
structure RkB (w W : World) (B5 B7 : Nat) (t0 t1 n : Int) (has : Bool) (least most : ByteArray) (ak ai : Int) (at_ : ByteArray) (bk bi : Int) (bt_ : ByteArray) : Prop where
  ra : RkA w W B5 t0 t1 n has least most ak ai at_
  kb : W.heap[B7]? = some (.cells #[.int .i64 bk, .int .i64 bi, .string bt_] 29 (0, 0))
theorem RkB.next {w W W' : World} {t0 t1 n : Int} {has : Bool} {least most : ByteArray} {B5 B7 : Nat} {ak ai bk bi : Int} {at_ bt_ : ByteArray} (h : RkB w W B5 B7 t0 t1 n has least most ak ai at_ bk bi bt_) (hb : Below W.heap.size W W') : RkB w W' B5 B7 t0 t1 n has least most ak ai at_ bk bi bt_ := ⟨h.ra.next hb, blk_below h.kb hb⟩
theorem RkB.drew {w W : World} {t0 t1 n : Int} {has : Bool} {least most : ByteArray} {B5 B7 : Nat} {ak ai bk bi : Int} {at_ bt_ : ByteArray} (h : RkB w W B5 B7 t0 t1 n has least most ak ai at_ bk bi bt_) : RkB w W.drew B5 B7 t0 t1 n has least most ak ai at_ bk bi bt_ := ⟨⟨⟨h.ra.rc.b0, h.ra.rc.b1, h.ra.rc.below.drew⟩, h.ra.lt, h.ra.ka⟩, h.kb⟩
theorem RkB.start {w W : World} {t0 t1 n : Int} {has : Bool} {least most : ByteArray} {B5 : Nat} {ak ai : Int} {at_ : ByteArray} (h : RkA w W B5 t0 t1 n has least most ak ai at_) (k i : Int) (t : ByteArray) : RkB w (W.alloc (.cells #[.int .i64 k, .int .i64 i, .string t] 29)) B5 W.heap.size t0 t1 n has least most ak ai at_ k i t :=
  ⟨h.next (below_alloc (Below.refl _ _) _), blk_new W _⟩
theorem RkB.held {w W : World} {t0 t1 n : Int} {has : Bool} {least most : ByteArray} {B5 B7 : Nat} {ak ai bk bi : Int} {at_ bt_ : ByteArray} (h : RkB w W B5 B7 t0 t1 n has least most ak ai at_ bk bi bt_) :
    (W.cell? ⟨B5, 0, none⟩ = some (.int .i64 ak) ∧ W.cell? ⟨B5, 1, none⟩ = some (.int .i64 ai) ∧ W.cell? ⟨B5, 2, none⟩ = some (.string at_)) ∧ (W.cell? ⟨B7, 0, none⟩ = some (.int .i64 bk) ∧ W.cell? ⟨B7, 1, none⟩ = some (.int .i64 bi) ∧ W.cell? ⟨B7, 2, none⟩ = some (.string bt_)) :=
  ⟨⟨blk_cell h.ra.ka 0, blk_cell h.ra.ka 1, blk_cell h.ra.ka 2⟩, ⟨blk_cell h.kb 0, blk_cell h.kb 1, blk_cell h.kb 2⟩⟩
attribute [local go_sem high] eqA29
end Go.Proofs.Ytncehlbhjoejhaa.H
end
