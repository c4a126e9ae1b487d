/- Texts of the claim, packed: H29. -/
import Derived.BigRegion
import Derived.Deep.Cut
import Derived.Deep.RegionHeld3
import Derived.Deep.RegionWith
import Derived.Lib.Hide
import Derived.Test.YteokhlpleimnbaaZShredSlice5
import Derived.Test.YteokhlpleimnbaaZShredSlice7
import Derived.Test.YteokhlpleimnbaaZShredSlice11
import Derived.Test.YteokhlpleimnbaaZShredSlice12
import Derived.Test.YteokhlpleimnbaaZShredSlice13
import Derived.Test.YteokhlpleimnbaaZShredSlice14
import Derived.Test.YteokhlpleimnbaaZShredSlice15
section
-- Laid by this session's hprint.py, out of the kit's print.py and texts of the session. Not trusted: Lean checks it.
namespace Go.Proofs.Yteokhlpleimnbaa.H
open Go.RowKit Go.Proofs.YteokhlpleimnbaaW.PrintWords Go.Proofs.YteokhlpleimnbaaW.PrintLast Go.Proofs.YteokhlpleimnbaaW.PrintMore
attribute [local go_sem] max2_int min2_int max_two min_two max_three min_three max_four min_four
set_option linter.unusedVariables false
set_option linter.unusedSimpArgs false

-- OVPART Derived.Lib.Hide Derived.Deep.RegionHeld3 Derived.BigRegion Derived.Deep.RegionWith Derived.Deep.Cut
def atL_ (l : List Int) : List Nat := zs_ l l.length ++ [l.length]
theorem atL_sorted (l : List Int) : (atL_ l).Pairwise (· ≤ ·) := by
 unfold atL_ zs_
 rw [List.pairwise_append]
 refine ⟨List.Pairwise.imp (fun h => Nat.le_of_lt h) (List.Pairwise.filter _ List.pairwise_lt_range), by simp, fun a ha b hb => ?_⟩
 have h1 := (List.mem_filter.mp ha).1
 rw [List.mem_range] at h1
 simp at hb
 omega
theorem atL_le (l : List Int) {i j : Nat} (h : i ≤ j) (hj : j < (atL_ l).length) : (atL_ l).getD i 0 ≤ (atL_ l).getD j 0 := by
 have e : ∀ k, k < (atL_ l).length → (atL_ l).getD k 0 = (atL_ l)[k]! := fun k hk => by simp [List.getD, hk]
 rw [e i (by omega), e j hj, getElem!_pos (atL_ l) i (by omega), getElem!_pos (atL_ l) j hj]
 rcases Nat.lt_or_ge i j with h1 | h1
 ·exact (List.pairwise_iff_getElem.mp (atL_sorted l)) i j (by omega) hj h1
 ·obtain rfl : i = j := by omega
  exact Nat.le_refl _
theorem atL_max (l : List Int) {i : Nat} (h : i < (atL_ l).length) : (atL_ l).getD i 0 ≤ l.length := by
 have h1 : (atL_ l).length = (zs_ l l.length).length + 1 := by simp [atL_]
 have h2 := atL_le l (i := i) (j := (zs_ l l.length).length) (by omega) (by omega)
 have h3 : (atL_ l).getD (zs_ l l.length).length 0 = l.length := by simp [atL_, List.getD]
 omega
theorem cnt_take_le (dfn : Int) (l : List Int) {a b : Nat} (h : a ≤ b) : cnt_ dfn (l.take a) ≤ cnt_ dfn (l.take b) := by
 obtain ⟨d, rfl⟩ : ∃ d, b = a + d := ⟨b - a, by omega⟩
 rw [List.take_add, cnt_app]
 omega
theorem cnt_take_all (dfn : Int) (l : List Int) (a : Nat) : cnt_ dfn (l.take a) ≤ cnt_ dfn l := by
 conv => rhs; rw [← List.take_append_drop a l]
 rw [cnt_app]
 omega
theorem rd_cast (l : List Nat) (i : Nat) : rd (l.map (fun x : Nat => (x : Int))) (i : Int) = ((l.getD i 0 : Nat) : Int) := by
 unfold rd
 rw [Int.toNat_natCast, List.getD_eq_getElem?_getD, List.getD_eq_getElem?_getD, List.getElem?_map]
 cases l[i]? <;> rfl
def shred_Slice.f (l0_0 l0_1 : List Int) (l0_2 : List S58) (a1 a2 : Int) (l3_0 : List ByteArray) (l3_1 : List Int) (a3_2 a3_3 a3_4 a3_5 : Int) : Option (List Int × List Int × List S58 × Int) :=
 if l3_1.length < 1000000000000 ∧ l0_0.length ≤ 1000000 ∧ l0_1.length ≤ 1000000 ∧ l0_2.length ≤ 1000000 then
  (if chk_ l3_1 a3_2 a3_3 a3_4 a3_5 l0_0 l0_1 l0_2 ≠ 0 then some ([], [], [], chk_ l3_1 a3_2 a3_3 a3_4 a3_5 l0_0 l0_1 l0_2)
  else if a1 < 0 ∨ a2 < a1 ∨ ((zs_ l0_0 l0_0.length).length : Int) < a2 then some ([], [], [], 4)
  else some ((l0_0.take ((atL_ l0_0).getD a2.toNat 0)).drop ((atL_ l0_0).getD a1.toNat 0), (l0_1.take ((atL_ l0_0).getD a2.toNat 0)).drop ((atL_ l0_0).getD a1.toNat 0),
   (l0_2.take (cnt_ a3_3 (l0_1.take ((atL_ l0_0).getD a2.toNat 0)))).drop (cnt_ a3_3 (l0_1.take ((atL_ l0_0).getD a1.toNat 0))), 0))
 else none
theorem chk_good {st : List Int} {rep dfn t0 t1 : Int} {l0 l1 : List Int} {l2 : List S58} (h : ¬ chk_ st rep dfn t0 t1 l0 l1 l2 ≠ 0) : l0.length = l1.length ∧ l0.length ≤ 65536 ∧ cnt_ dfn l1 = l2.length := by
 unfold chk_ at h
 split at h
 case isFalse => exact absurd (by decide) h
 case isTrue hh =>
  have h1 := hh.1
  unfold begin_ at h1
  simp only [Bool.and_eq_true, decide_eq_true_eq] at h1
  exact ⟨by omega, by omega, hh.2.2.1⟩
theorem cut_row {α : Type} {k : Kd α} (t e : TypeId) (hu : Try.prog.underlying t = some (.slice e)) (hi : ∀ w, (sizeOf e).run Try.prog w = .ok k.sz w) (A : Option Addr) (c : Nat) (l : List α) (hc : l.length ≤ c) (a b : Nat) (hab : a ≤ b) (hb : b ≤ l.length) :
  ∃ A1, (∀ W, (Instr.slice t (.slice A l.length c) (some (.int .i64 (a : Int))) (some (.int .i64 (b : Int))) none).run Try.prog W = .ok (.slice A1 ((l.take b).drop a).length (c - a)) W) ∧ ((l.take b).drop a).length ≤ c - a ∧ (∀ W, k.C W A l.length l → k.C W A1 ((l.take b).drop a).length ((l.take b).drop a)) := by
 have hel : Try.prog.elem t = e := by simp [Program.elem, hu]
 have hlen : (l.take b).length = b := by rw [List.length_take]; omega
 have hlen2 : ((l.take b).drop a).length = b - a := by rw [List.length_drop, hlen]
 refine ⟨if c = a then A else A.map (·.add (a * k.sz)), fun W => ?_, by omega, fun W h => ?_⟩
 ·rw [run_slice_lh W t A l.length c (by rw [hel]; exact hu) .i64 .i64 (a : Int) (b : Int) (by omega) (by omega) (by omega), hel, hi]
  simp [Result.andThen, sliced, hlen2]
 ·have h1 := Kd.C_take h hb
  exact Kd.C_drop (c := c) h1 (by omega) (by omega)
theorem take_row (t e : TypeId) (s : Nat) (hu : Try.prog.underlying t = some (.slice e)) (hi : ∀ w, (sizeOf e).run Try.prog w = .ok s w) (A : Option Addr) (n c : Nat) (hc : n ≤ c) (b : Nat) (hb : b ≤ n) (W : World) :
  (Instr.slice t (.slice A n c) none (some (.int .i64 (b : Int))) none).run Try.prog W = .ok (.slice A b c) W := by
 have hel : Try.prog.elem t = e := by simp [Program.elem, hu]
 rw [run_slice_h W t A n c (by rw [hel]; exact hu) .i64 (b : Int) (by omega) (by omega), hel, hi]
 have e0 : ∀ (A : Option Addr), A.map (fun a => a.add 0) = A := fun A => by cases A <;> simp [Addr.add]
 simp [Result.andThen, sliced, e0]
theorem size_int_ (w : World) : (sizeOf 3).run Try.prog w = .ok 1 w := by
 obtain ⟨i0, hi, _, hz1, _⟩ := info_parts info_int_
 simp [sizeOf, typeInfo, hi, hz1]
theorem size_dat_ (w : World) : (sizeOf 58).run Try.prog w = .ok 3 w := by
 obtain ⟨i0, hi, _, hz1, _⟩ := info_parts info_datum
 simp [sizeOf, typeInfo, hi, hz1]
structure Sl_ (w W : World) (y0 y1 y2 x0 x1 x2 x3 x4 x5 z0 z1 z2 : Value) : Prop where
 b0 : W.heap[w.heap.size]? = some (.cells #[y0, y1, y2] 28 (0, 0))
 b1 : W.heap[w.heap.size + 1]? = some (.cells #[x0, x1, x2, x3, x4, x5] 44 (0, 0))
 b2 : W.heap[w.heap.size + 2]? = some (.cells #[z0, z1, z2] 28 (0, 0))
 below : Below w.heap.size w W
theorem Sl_.next {w W : World} {y0 y1 y2 x0 x1 x2 x3 x4 x5 z0 z1 z2 : Value} {W' : World} (h : Sl_ w W y0 y1 y2 x0 x1 x2 x3 x4 x5 z0 z1 z2) (hb : Below W.heap.size W W') : Sl_ w W' y0 y1 y2 x0 x1 x2 x3 x4 x5 z0 z1 z2 := ⟨blk_below h.b0 hb, blk_below h.b1 hb, blk_below h.b2 hb, below_step h.below hb⟩
theorem Sl_.drew {w W : World} {y0 y1 y2 x0 x1 x2 x3 x4 x5 z0 z1 z2 : Value} (h : Sl_ w W y0 y1 y2 x0 x1 x2 x3 x4 x5 z0 z1 z2) : Sl_ w W.drew y0 y1 y2 x0 x1 x2 x3 x4 x5 z0 z1 z2 := ⟨h.b0, h.b1, h.b2, h.below.drew⟩
theorem Sl_.start (w : World) (y0 y1 y2 x0 x1 x2 x3 x4 x5 z0 z1 z2 : Value) : Sl_ w (((w.alloc (.cells #[y0, y1, y2] 28)).alloc (.cells #[x0, x1, x2, x3, x4, x5] 44)).alloc (.cells #[z0, z1, z2] 28)) y0 y1 y2 x0 x1 x2 x3 x4 x5 z0 z1 z2 := by
 have h1 := blk_new (w.alloc (.cells #[y0, y1, y2] 28)) (.cells #[x0, x1, x2, x3, x4, x5] 44)
 have h2 := blk_new ((w.alloc (.cells #[y0, y1, y2] 28)).alloc (.cells #[x0, x1, x2, x3, x4, x5] 44)) (.cells #[z0, z1, z2] 28)
 simp only [World.size_alloc] at h1 h2
 exact ⟨blk_alloc (blk_alloc (blk_new w _) _) _, blk_alloc h1 _, h2, below_alloc (below_alloc (below_alloc (Below.refl _ _) _) _) _⟩
theorem Sl_.cells {w W : World} {y0 y1 y2 x0 x1 x2 x3 x4 x5 z0 z1 z2 : Value} (h : Sl_ w W y0 y1 y2 x0 x1 x2 x3 x4 x5 z0 z1 z2) : (W.cell? ⟨w.heap.size, 0, none⟩ = some y0 ∧ W.cell? ⟨w.heap.size, 1, none⟩ = some y1 ∧ W.cell? ⟨w.heap.size, 2, none⟩ = some y2) ∧ (W.cell? ⟨w.heap.size + 1, 0, none⟩ = some x0 ∧ W.cell? ⟨w.heap.size + 1, 1, none⟩ = some x1 ∧ W.cell? ⟨w.heap.size + 1, 2, none⟩ = some x2 ∧ W.cell? ⟨w.heap.size + 1, 3, none⟩ = some x3 ∧ W.cell? ⟨w.heap.size + 1, 4, none⟩ = some x4 ∧ W.cell? ⟨w.heap.size + 1, 5, none⟩ = some x5) ∧
  (W.cell? ⟨w.heap.size + 2, 0, none⟩ = some z0 ∧ W.cell? ⟨w.heap.size + 2, 1, none⟩ = some z1 ∧ W.cell? ⟨w.heap.size + 2, 2, none⟩ = some z2) ∧ (W.frozen? ⟨w.heap.size + 2, 0, none⟩ = false ∧ W.frozen? ⟨w.heap.size + 2, 1, none⟩ = false ∧ W.frozen? ⟨w.heap.size + 2, 2, none⟩ = false) :=
 ⟨⟨blk_cell h.b0 0, blk_cell h.b0 1, blk_cell h.b0 2⟩, ⟨blk_cell h.b1 0, blk_cell h.b1 1, blk_cell h.b1 2, blk_cell h.b1 3, blk_cell h.b1 4, blk_cell h.b1 5⟩, ⟨blk_cell h.b2 0, blk_cell h.b2 1, blk_cell h.b2 2⟩, blk_frozen h.b2 0, blk_frozen h.b2 1, blk_frozen h.b2 2⟩
theorem Sl_.held {w W : World} {y0 y1 y2 x0 x1 x2 x3 x4 x5 z0 z1 z2 : Value} (h : Sl_ w W y0 y1 y2 x0 x1 x2 x3 x4 x5 z0 z1 z2) : (W.cell? ⟨w.heap.size, 0, none⟩ = some y0 ∧ W.cell? ⟨w.heap.size, 1, none⟩ = some y1 ∧ W.cell? ⟨w.heap.size, 2, none⟩ = some y2) ∧ (W.frozen? ⟨w.heap.size + 2, 0, none⟩ = false ∧ W.frozen? ⟨w.heap.size + 2, 1, none⟩ = false ∧ W.frozen? ⟨w.heap.size + 2, 2, none⟩ = false) := ⟨h.cells.1, h.cells.2.2.2⟩
theorem Sl_.put {w W : World} {y0 y1 y2 x0 x1 x2 x3 x4 x5 z0 z1 z2 : Value} (h : Sl_ w W y0 y1 y2 x0 x1 x2 x3 x4 x5 z0 z1 z2) (x y z : Value) : Sl_ w (((W.setCell ⟨w.heap.size + 2, 0, none⟩ x).setCell ⟨w.heap.size + 2, 1, none⟩ y).setCell ⟨w.heap.size + 2, 2, none⟩ z) y0 y1 y2 x0 x1 x2 x3 x4 x5 x y z :=
 ⟨blk_far (blk_far (blk_far h.b0 (p := ⟨w.heap.size + 2, 0, none⟩) (by show w.heap.size ≠ w.heap.size + 2; omega) x) (p := ⟨w.heap.size + 2, 1, none⟩) (by show w.heap.size ≠ w.heap.size + 2; omega) y) (p := ⟨w.heap.size + 2, 2, none⟩) (by show w.heap.size ≠ w.heap.size + 2; omega) z,
  blk_far (blk_far (blk_far h.b1 (p := ⟨w.heap.size + 2, 0, none⟩) (by show w.heap.size + 1 ≠ w.heap.size + 2; omega) x) (p := ⟨w.heap.size + 2, 1, none⟩) (by show w.heap.size + 1 ≠ w.heap.size + 2; omega) y) (p := ⟨w.heap.size + 2, 2, none⟩) (by show w.heap.size + 1 ≠ w.heap.size + 2; omega) z, putC h.b2 x y z,
  ((h.below.setCell (p := ⟨w.heap.size + 2, 0, none⟩) (by show w.heap.size ≤ w.heap.size + 2; omega) x).setCell (p := ⟨w.heap.size + 2, 1, none⟩) (by show w.heap.size ≤ w.heap.size + 2; omega) y).setCell (p := ⟨w.heap.size + 2, 2, none⟩) (by show w.heap.size ≤ w.heap.size + 2; omega) z⟩
set_option maxHeartbeats 4000000 in
set_option maxRecDepth 100000 in
theorem count_calls_ (A : Option Addr) (c : Nat) (l : List Int) (dfn : Int) (b : Nat) (w : World) (hr : Kd.C (Kd.int .i64) w A l.length l) (hlen : l.length ≤ 1000000) (h0 : w.cell? ⟨b, 3, none⟩ = some (.int .i64 dfn)) :
  Calls Try.prog 21 #[.slice A l.length c, .pointer (some ⟨b, 0, none⟩)] w fun e w' => e = .returned (.int .i64 (cnt_ dfn l : Nat)) ∧ Below w.heap.size w w' := by
 have lb := World.block_lt_of_cell? w _ h0
 simp only at lb
 go_enter Try.func21, Try.ntmps21
 go_wp2_with fail
 go_loopw [4, 9] (fun v4 v9 wr => ∃ i : Nat, v4 = .int .i64 (cnt_ dfn (l.take i) : Nat) ∧ v9 = .int .i64 (i : Nat) ∧ i ≤ l.length ∧ Below w.heap.size w wr) (fun _ v9 _ => l.length - (intOf v9).toNat)
 case atStart => exact ⟨0, rfl, rfl, Nat.zero_le _, Below.refl _ _⟩
 case round =>
  obtain ⟨i, rfl, rfl, hi, hB⟩ := hrel
  have hce : wr.cell? ⟨b, 3, none⟩ = some (.int .i64 dfn) := (hB.cell (p := ⟨b, 3, none⟩) lb).trans h0
  by_cases hlt : i < l.length
  ·obtain ⟨ad, e0, hx⟩ := Kd.at_int (Kd.C_below hr hB) (i : Int) (by omega) (by omega)
   cases e0
   simp only [Int.toNat_natCast] at hx
   have hn := cnt_next dfn l i hlt
   have hle := cnt_le dfn (l.take i)
   have hle2 : (l.take i).length ≤ i := by rw [List.length_take]; omega
   generalize hc : cnt_ dfn (l.take i) = ct at *
   generalize rd l (i : Int) = x at *
   have HC := Lib.hid hc
   have HN := Lib.hid hn
   clear hc hn
   have hct : ct ≤ 1000000 := by omega
   clear hle hle2
   by_cases hq : x = dfn
   ·have hqb : (x == dfn) = true := beq_iff_eq.mpr hq
    have HQ := Lib.hid hq
    clear hq
    go_wp2_with fail
    go_roundw
    case rel => exact ⟨i + 1, by rw [HN.out, if_pos HQ.out]; go_num, by go_num, by omega, hB⟩
    case measure => simp [intOf]; omega
   ·have hqb : (x == dfn) = false := beq_eq_false_iff_ne.mpr hq
    have HQ := Lib.hid hq
    clear hq
    go_wp2_with fail
    go_roundw
    case rel => exact ⟨i + 1, by rw [HN.out, if_neg HQ.out, Nat.add_zero], by go_num, by omega, hB⟩
    case measure => simp [intOf]; omega
  ·have hie : i = l.length := by omega
   have HL := Lib.hid (show l.take i = l by rw [hie, List.take_length])
   clear hie
   go_wp2_with fail
   go_ret
   exact ⟨by rw [HL.out] <;> rfl, hB⟩
set_option maxHeartbeats 8000000 in
set_option maxRecDepth 100000 in
theorem shred_Slice.calls (A0_0 : Option Addr) (c0_0 : Nat) (l0_0 : List Int) (A0_1 : Option Addr) (c0_1 : Nat) (l0_1 : List Int) (A0_2 : Option Addr) (c0_2 : Nat) (l0_2 : List (S58)) (a1 : Int) (a2 : Int) (A3_0 : Option Addr) (c3_0 : Nat) (l3_0 : List ByteArray) (A3_1 : Option Addr) (c3_1 : Nat) (l3_1 : List Int) (a3_2 : Int) (a3_3 : Int) (a3_4 : Int) (a3_5 : Int) (r1 : List Int) (r2 : List Int) (r3 : List (S58)) (r4 : Int) (w : World) (hr0_0 : Kd.C (Kd.int .i64) w A0_0 l0_0.length l0_0) (hc0_0 : l0_0.length ≤ c0_0) (hr0_1 : Kd.C (Kd.int .i64) w A0_1 l0_1.length l0_1) (hc0_1 : l0_1.length ≤ c0_1) (hr0_2 : Kd.C k58 w A0_2 l0_2.length l0_2) (hc0_2 : l0_2.length ≤ c0_2) (hr3_0 : Kd.C Kd.string w A3_0 l3_0.length l3_0) (hc3_0 : l3_0.length ≤ c3_0) (hr3_1 : Kd.C (Kd.int .i64) w A3_1 l3_1.length l3_1) (hc3_1 : l3_1.length ≤ c3_1) (h : shred_Slice.f l0_0 l0_1 l0_2 a1 a2 l3_0 l3_1 a3_2 a3_3 a3_4 a3_5 = some (r1, r2, r3, r4)) :
  Calls Try.prog 8 #[.agg #[.slice A0_0 l0_0.length c0_0, .slice A0_1 l0_1.length c0_1, .slice A0_2 l0_2.length c0_2], .int .i64 a1, .int .i64 a2, .agg #[.slice A3_0 l3_0.length c3_0, .slice A3_1 l3_1.length c3_1, .int .i64 a3_2, .int .i64 a3_3, .int .i64 a3_4, .int .i64 a3_5]] w fun e w' => ∃ v0_ v1_ v2_ : Value, e = .returned (.tuple #[.agg #[v0_, v1_, v2_], .int .i64 r4]) ∧ Kd.R (Kd.int .i64) 3 w' w.heap.size (fun k_ => some k_ ≠ (v1_ : Value).ownBlock) v0_ r1 ∧ Kd.R (Kd.int .i64) 3 w' w.heap.size (fun k_ => some k_ ≠ (v0_ : Value).ownBlock) v1_ r2 ∧ Kd.R k58 58 w' w.heap.size (fun _ => True) v2_ r3 ∧ Below w.heap.size w w' := by
 unfold shred_Slice.f at h
 split at h
 case isFalse => cases h
 case isTrue hlen =>
 obtain ⟨m3, m0, m1, m2⟩ := hlen
 have hS := Sl_.start w (.slice A0_0 l0_0.length c0_0) (.slice A0_1 l0_1.length c0_1) (.slice A0_2 l0_2.length c0_2) (.slice A3_0 l3_0.length c3_0) (.slice A3_1 l3_1.length c3_1) (.int .i64 a3_2) (.int .i64 a3_3) (.int .i64 a3_4) (.int .i64 a3_5) (.slice none 0 0) (.slice none 0 0) (.slice none 0 0)
 obtain ⟨chk, hchk⟩ : ∃ chk, chk_ l3_1 a3_2 a3_3 a3_4 a3_5 l0_0 l0_1 l0_2 = chk := ⟨_, rfl⟩
 have HK := Lib.hid (show shred_Check.f l3_0 l3_1 a3_2 a3_3 a3_4 a3_5 l0_0 l0_1 l0_2 = some chk by unfold shred_Check.f; rw [if_pos ⟨m3, m0, m1, m2⟩, hchk])
 have hgood := @chk_good l3_1 a3_2 a3_3 a3_4 a3_5 l0_0 l0_1 l0_2
 rw [hchk] at h hgood
 clear hchk m3
 by_cases hck : chk ≠ 0
 case pos =>
  rw [if_pos hck] at h
  simp only [Option.some.injEq, Prod.mk.injEq] at h
  obtain ⟨rfl, rfl, rfl, rfl⟩ := h
  have hcb : (chk != 0) = true := bne_iff_ne.mpr hck
  clear hgood hck
  go_enter Try.func8, Try.ntmps8
  go_wp2_with fail
  refine (shred_Check.calls A3_0 c3_0 l3_0 A3_1 c3_1 l3_1 a3_2 a3_3 a3_4 a3_5 A0_0 c0_0 l0_0 A0_1 c0_1 l0_1 A0_2 c0_2 l0_2 chk _ (Kd.C_below hr3_0 hS.below) hc3_0 (Kd.C_below hr3_1 hS.below) hc3_1 (Kd.C_below hr0_0 hS.below) hc0_0 (Kd.C_below hr0_1 hS.below) hc0_1 (Kd.C_below hr0_2 hS.below) hc0_2 HK.out).mono ?_
  rintro e w1 ⟨rfl, hB1⟩
  have hS1 := hS.next hB1
  clear hS hB1 HK
  obtain ⟨⟨y0, y1, y2⟩, ⟨x0, x1, x2, x3, x4, x5⟩, ⟨z0, z1, z2⟩, f0, f1, f2⟩ := hS1.cells
  go_wp2_with fail
  refine bodyPost_ret (results_ct rfl _ _ (w.heap.size + 2) 28 #[.slice none 0 0, .slice none 0 0, .slice none 0 0] (0, 0) _ rfl (putC hS1.b2 _ _ _) Try.underlying28 rfl (by kernel_rfl)) rfl ?_
  exact ⟨_, _, _, rfl, Kd.R_nil _ _ _ _ _, Kd.R_nil _ _ _ _ _, Kd.R_nil _ _ _ _ _, (hS1.put _ _ _).below⟩
 case neg =>
 rw [if_neg hck] at h
 obtain ⟨g0, g1, g2⟩ := hgood hck
 obtain rfl : chk = 0 := Decidable.not_not.mp hck
 clear hgood hck
 have G0 := Lib.hid g0
 have g0a : l0_0.length ≤ l0_1.length := Nat.le_of_eq g0
 have g0b : l0_1.length ≤ l0_0.length := Nat.le_of_eq g0.symm
 have G2 := Lib.hid g2
 clear g0 g2
 go_enter Try.func8, Try.ntmps8
 go_wp2_with fail
 refine (shred_Check.calls A3_0 c3_0 l3_0 A3_1 c3_1 l3_1 a3_2 a3_3 a3_4 a3_5 A0_0 c0_0 l0_0 A0_1 c0_1 l0_1 A0_2 c0_2 l0_2 0 _ (Kd.C_below hr3_0 hS.below) hc3_0 (Kd.C_below hr3_1 hS.below) hc3_1 (Kd.C_below hr0_0 hS.below) hc0_0 (Kd.C_below hr0_1 hS.below) hc0_1 (Kd.C_below hr0_2 hS.below) hc0_2 HK.out).mono ?_
 rintro e w1 ⟨rfl, hB1⟩
 have hS1 := hS.next hB1
 clear hS hB1 HK
 obtain ⟨⟨y0, y1, y2⟩, ⟨x0, x1, x2, x3, x4, x5⟩, ⟨z0, z1, z2⟩, f0, f1, f2⟩ := hS1.cells
 go_wp2_with fail
 refine ((callsIn_wide (n := 6)).1 (starts_in 6 _ _ _ _)).mono ?_
 rintro e w2 ⟨rfl, hw2⟩
 have hb12 : Below w1.heap.size w1 w2 := by rw [hw2]; exact below_alloc (Below.refl _ _) _
 have hcb : w2.cell? ⟨w1.heap.size, 0, none⟩ = some (.slice A0_0 l0_0.length c0_0) := by rw [hw2]; exact blk_cell (blk_new w1 _) 0
 have hsz2 : w1.heap.size < w2.heap.size := by rw [hw2, World.size_alloc]; omega
 have hS2 := hS1.next hb12
 clear hw2 hb12 hS1 y0 y1 y2 x0 x1 x2 x3 x4 x5 z0 z1 z2 f0 f1 f2
 go_wp2_with fail
 refine (collect_starts w1.heap.size A0_0 c0_0 l0_0 _ m0 (Kd.C_below hr0_0 hS2.below) hsz2 hcb).mono ?_
 rintro e w3 ⟨vz, rfl, R3, hB3⟩
 obtain ⟨Dz, dz, rfl⟩ := Kd.R_slice R3
 have hS3 := hS2.next hB3
 have HZ := Lib.hid (show atL_ l0_0 = zs_ l0_0 l0_0.length ++ [l0_0.length] from rfl)
 have hzl := zs_le l0_0 l0_0.length
 have hmx := fun i => @atL_max l0_0 i
 have hmo := fun i j => @atL_le l0_0 i j
 generalize zs_ l0_0 l0_0.length = zs at *
 generalize atL_ l0_0 = atl at *
 rw [List.length_map]
 obtain ⟨⟨y0, y1, y2⟩, ⟨x0, x1, x2, x3, x4, x5⟩, ⟨z0, z1, z2⟩, f0, f1, f2⟩ := hS3.cells
 clear hcb hsz2
 by_cases k0 : a1 < 0
 case pos =>
  rw [if_pos (.inl k0)] at h
  have k0b : decide (a1 < 0) = true := decide_eq_true k0
  clear k0
  simp only [Option.some.injEq, Prod.mk.injEq] at h
  obtain ⟨rfl, rfl, rfl, rfl⟩ := h
  clear hmx hmo
  go_wp2_with fail
  refine bodyPost_ret (results_ct rfl _ _ (w.heap.size + 2) 28 #[.slice none 0 0, .slice none 0 0, .slice none 0 0] (0, 0) _ rfl (putC hS3.b2 _ _ _) Try.underlying28 rfl (by kernel_rfl)) rfl ?_
  exact ⟨_, _, _, rfl, Kd.R_nil _ _ _ _ _, Kd.R_nil _ _ _ _ _, Kd.R_nil _ _ _ _ _, (hS3.put _ _ _).below⟩
 case neg =>
 have k0b : decide (a1 < 0) = false := decide_eq_false k0
 by_cases k1 : a2 < a1
 case pos =>
  rw [if_pos (.inr (.inl k1))] at h
  have k1b : decide (a2 < a1) = true := decide_eq_true k1
  clear k0 k1
  simp only [Option.some.injEq, Prod.mk.injEq] at h
  obtain ⟨rfl, rfl, rfl, rfl⟩ := h
  clear hmx hmo
  go_wp2_with fail
  refine bodyPost_ret (results_ct rfl _ _ (w.heap.size + 2) 28 #[.slice none 0 0, .slice none 0 0, .slice none 0 0] (0, 0) _ rfl (putC hS3.b2 _ _ _) Try.underlying28 rfl (by kernel_rfl)) rfl ?_
  exact ⟨_, _, _, rfl, Kd.R_nil _ _ _ _ _, Kd.R_nil _ _ _ _ _, Kd.R_nil _ _ _ _ _, (hS3.put _ _ _).below⟩
 case neg =>
 have k1b : decide (a2 < a1) = false := decide_eq_false k1
 by_cases k2 : a2 > (zs.length : Int)
 case pos =>
  rw [if_pos (.inr (.inr k2))] at h
  have k2b : decide (a2 > (zs.length : Int)) = true := decide_eq_true k2
  clear k0 k1 k2
  simp only [Option.some.injEq, Prod.mk.injEq] at h
  obtain ⟨rfl, rfl, rfl, rfl⟩ := h
  clear hmx hmo
  go_wp2_with fail
  refine bodyPost_ret (results_ct rfl _ _ (w.heap.size + 2) 28 #[.slice none 0 0, .slice none 0 0, .slice none 0 0] (0, 0) _ rfl (putC hS3.b2 _ _ _) Try.underlying28 rfl (by kernel_rfl)) rfl ?_
  exact ⟨_, _, _, rfl, Kd.R_nil _ _ _ _ _, Kd.R_nil _ _ _ _ _, Kd.R_nil _ _ _ _ _, (hS3.put _ _ _).below⟩
 case neg =>
 have k2b : decide (a2 > (zs.length : Int)) = false := decide_eq_false k2
 rw [if_neg (fun hh => hh.elim k0 (fun hh => hh.elim k1 k2))] at h
 simp only [Option.some.injEq, Prod.mk.injEq] at h
 obtain ⟨p, rfl⟩ := Int.eq_ofNat_of_zero_le (show 0 ≤ a1 by omega)
 obtain ⟨q, rfl⟩ := Int.eq_ofNat_of_zero_le (show 0 ≤ a2 by omega)
 rw [Int.toNat_natCast, Int.toNat_natCast] at h
 have hlA : atl.length = zs.length + 1 := by rw [HZ.out]; simp
 have hab := hmo p q (by omega) (by omega)
 have hbn := hmx q (by omega)
 have hpl : p < zs.length + 1 := by omega
 have hql : q < zs.length + 1 := by omega
 have RA := rd_cast atl p
 have RB := rd_cast atl q
 have k1n : p ≤ q := by omega
 have k2n : q ≤ zs.length := by omega
 have k1c : decide (q < p) = false := decide_eq_false (by omega)
 have k2c : decide (zs.length < q) = false := decide_eq_false (by omega)
 clear hmo hmx hlA k0 k1 k2
 generalize atl.getD p 0 = ca at *
 generalize atl.getD q 0 = cb at *
 obtain ⟨h1, h2, h3, rfl⟩ := h
 have HR := Lib.hid (And.intro h1 (And.intro h2 h3))
 clear h1 h2 h3
 rw [List.length_map] at R3
 go_wp2_with (first | ((with_reducible refine gate_builtin (b := .append) (xs := #[.tmp 41, .tmp 45]) rfl ?_); at_builtin; refine Kd.R_append (Kd.int .i64) (w0 := w2) w2.heap.size rfl (.tmp 41) (.tmp 45) 25 3 (.int .i64 0) 8 rfl Try.underlying25 info_int_ rfl (by decide) (by omega) (.slice Dz zs.length dz) (zs.map (fun x : Nat => (x : Int))) (l0_0.length : Int) [.int .i64 l0_0.length] (fun _ => True) (fun _ => False) rfl rfl ?aP (fun _ hk => hk.elim) ?aF ?aO ?aB ?aS ?aL ?_; (case aP => exact rfl); (case aB => exact hB3); (case aF => exact (fun _ _ => trivial)); (case aO => exact R3); (case aS => exact (below_size hB3)); (case aL => rw [List.length_map]; omega); intro v4 w4 R4 hb4 hg4 hat4; clear hg4 hat4))
 have e4 : zs.map (fun x : Nat => (x : Int)) ++ [(l0_0.length : Int)] = atl.map (fun x : Nat => (x : Int)) := by rw [HZ.out, List.map_append]; rfl
 rw [e4] at R4
 have hS4 := (hS2.next hb4).drew
 have hl4 : (atl.map (fun x : Nat => (x : Int))).length = zs.length + 1 := by rw [← e4]; simp
 obtain ⟨A4, c4, rfl, hc4, C4⟩ := Kd.R_reads R4
 replace C4 := Kd.C_below C4 ((Below.refl _ w4).drew)
 clear e4 R4 R3 hB3 hb4 hS3 hS2 y0 y1 y2 x0 x1 x2 x3 x4 x5 z0 z1 z2 f0 f1 f2
 obtain ⟨ad4, e4, hxp⟩ := Kd.at_int C4 (p : Int) (by omega) (by omega)
 obtain ⟨ad5, e5, hxq⟩ := Kd.at_int C4 (q : Int) (by omega) (by omega)
 cases e4
 cases e5
 rw [RA, Int.toNat_natCast] at hxp
 rw [RB, Int.toNat_natCast] at hxq
 have hp4 : p < (atl.map (fun x : Nat => (x : Int))).length := by omega
 have hq4 : q < (atl.map (fun x : Nat => (x : Int))).length := by omega
 clear RA RB C4 hl4
 generalize (atl.map (fun x : Nat => (x : Int))).length = len4 at *
 generalize hw5 : w4.drew = w5 at *
 refine wp_region_held_drew (S := fun W => W.cell? (ad4.add p) = some (.int .i64 (ca : Nat)) ∧ W.cell? (ad4.add q) = some (.int .i64 (cb : Nat))) (by kernel_rfl) (by rw [hw5]; exact ⟨hxp, hxq⟩) (fun hHeld => ?_)
 rw [hw5]
 have hSt : (fun W : World => W.cell? (ad4.add p) = some (.int .i64 (ca : Nat)) ∧ W.cell? (ad4.add q) = some (.int .i64 (cb : Nat))) w5 := ⟨hxp, hxq⟩
 refine tkY 0 (some 47) rfl rfl (by kernel_rfl) (by kernel_rfl) (by kernel_rfl) (fun _ _ _ h => h) (by rfl) (v := ?tkvh0) ?tkyh0 (by assumption) rfl ?tkrh0
 case tkyh0 =>
  intro W' hSw
  try dsimp only at hSw
  go_simp
  first | done | with_reducible rfl
 simp only [Act.put, List.setIfInBounds_toArray, List.set_cons_zero, List.set_cons_succ]
 refine tkY 1 (some 48) rfl rfl (by kernel_rfl) (by kernel_rfl) (by kernel_rfl) (fun _ _ _ h => h) (by rfl) (v := ?tkvh1) ?tkyh1 (by assumption) rfl ?tkrh1
 case tkyh1 =>
  intro W' hSw
  try dsimp only at hSw
  go_simp
  first | done | with_reducible rfl
 simp only [Act.put, List.setIfInBounds_toArray, List.set_cons_zero, List.set_cons_succ]
 refine tkY 2 (some 49) rfl rfl (by kernel_rfl) (by kernel_rfl) (by kernel_rfl) (fun _ _ _ h => h) (by rfl) (v := ?tkvh2) ?tkyh2 (by assumption) rfl ?tkrh2
 case tkyh2 =>
  intro W' hSw
  try dsimp only at hSw
  go_simp
  first | done | with_reducible rfl
 simp only [Act.put, List.setIfInBounds_toArray, List.set_cons_zero, List.set_cons_succ]
 refine tkY 3 (some 50) rfl rfl (by kernel_rfl) (by kernel_rfl) (by kernel_rfl) (fun _ _ _ h => h) (by rfl) (v := ?tkvh3) ?tkyh3 (by assumption) rfl ?tkrh3
 case tkyh3 =>
  intro W' hSw
  try dsimp only at hSw
  go_simp
  first | done | with_reducible rfl
 simp only [Act.put, List.setIfInBounds_toArray, List.set_cons_zero, List.set_cons_succ]
 refine tkY 4 (some 51) rfl rfl (by kernel_rfl) (by kernel_rfl) (by kernel_rfl) (fun _ _ _ h => h) (by rfl) (v := ?tkvh4) ?tkyh4 (by assumption) rfl ?tkrh4
 case tkyh4 =>
  intro W' hSw
  try dsimp only at hSw
  go_simp
  first | done | with_reducible rfl
 simp only [Act.put, List.setIfInBounds_toArray, List.set_cons_zero, List.set_cons_succ]
 refine tkY 5 (some 52) rfl rfl (by kernel_rfl) (by kernel_rfl) (by kernel_rfl) (fun _ _ _ h => h) (by rfl) (v := ?tkvh5) ?tkyh5 (by assumption) rfl ?tkrh5
 case tkyh5 =>
  intro W' hSw
  try dsimp only at hSw
  go_simp
  first | done | with_reducible rfl
 simp only [Act.put, List.setIfInBounds_toArray, List.set_cons_zero, List.set_cons_succ]
 refine tkY 6 (some 53) rfl rfl (by kernel_rfl) (by kernel_rfl) (by kernel_rfl) (fun _ _ _ h => h) (by rfl) (v := ?tkvh6) ?tkyh6 (by assumption) rfl ?tkrh6
 case tkyh6 =>
  intro W' hSw
  try dsimp only at hSw
  go_simp
  first | done | with_reducible rfl
 simp only [Act.put, List.setIfInBounds_toArray, List.set_cons_zero, List.set_cons_succ]
 refine tkY 7 (some 54) rfl rfl (by kernel_rfl) (by kernel_rfl) (by kernel_rfl) (fun _ _ _ h => h) (by rfl) (v := ?tkvh7) ?tkyh7 (by assumption) rfl ?tkrh7
 case tkyh7 =>
  intro W' hSw
  try dsimp only at hSw
  go_simp
  first | done | with_reducible rfl
 simp only [Act.put, List.setIfInBounds_toArray, List.set_cons_zero, List.set_cons_succ]
 refine tkY 8 (some 12) rfl rfl (by kernel_rfl) (by kernel_rfl) (by kernel_rfl) (fun _ _ _ h => h) (by rfl) (v := ?tkvh8) ?tkyh8 (by assumption) rfl ?tkrh8
 case tkyh8 =>
  intro W' hSw
  try dsimp only at hSw
  go_simp
  first | done | with_reducible rfl
 simp only [Act.put, List.setIfInBounds_toArray, List.set_cons_zero, List.set_cons_succ]
 refine tkY 9 (some 13) rfl rfl (by kernel_rfl) (by kernel_rfl) (by kernel_rfl) (fun _ _ _ h => h) (by rfl) (v := ?tkvh9) ?tkyh9 (by assumption) rfl ?tkrh9
 case tkyh9 =>
  intro W' hSw
  try dsimp only at hSw
  go_simp
  first | done | with_reducible rfl
 simp only [Act.put, List.setIfInBounds_toArray, List.set_cons_zero, List.set_cons_succ]
 refine wpAnyH_done (by kernel_rfl) ?_ _
 clear hHeld hSt hxp hxq hp4 hq4 hw5
 go_wp2_with fail
 have hS5 := hS4.drew
 have t1 := take_row 25 3 1 Try.underlying25 size_int_ A0_1 l0_1.length c0_1 hc0_1 ca (by omega)
 have t2 := take_row 25 3 1 Try.underlying25 size_int_ A0_1 l0_1.length c0_1 hc0_1 cb (by omega)
 refine wp_region_held_drew (S := (fun W => (W.cell? ⟨w.heap.size, 0, none⟩ = some (.slice A0_0 l0_0.length c0_0) ∧ W.cell? ⟨w.heap.size, 1, none⟩ = some (.slice A0_1 l0_1.length c0_1) ∧ W.cell? ⟨w.heap.size, 2, none⟩ = some (.slice A0_2 l0_2.length c0_2)) ∧ (W.frozen? ⟨w.heap.size + 2, 0, none⟩ = false ∧ W.frozen? ⟨w.heap.size + 2, 1, none⟩ = false ∧ W.frozen? ⟨w.heap.size + 2, 2, none⟩ = false))) (by kernel_rfl) hS5.held (fun hHeld => ?_)
 generalize w5.drew = w6 at *
 refine tkY 0 (some 56) rfl rfl (by kernel_rfl) (by kernel_rfl) (by kernel_rfl) (fun _ _ _ h => h) (by rfl) (v := ?tkvi0) ?tkyi0 (by assumption) rfl ?tkri0
 case tkyi0 =>
  intro W' hSw
  try dsimp only at hSw
  go_simp
  first | done | with_reducible rfl
 simp only [Act.put, List.setIfInBounds_toArray, List.set_cons_zero, List.set_cons_succ]
 refine tkY 1 (some 57) rfl rfl (by kernel_rfl) (by kernel_rfl) (by kernel_rfl) (fun _ _ _ h => h) (by rfl) (v := ?tkvi1) ?tkyi1 (by assumption) rfl ?tkri1
 case tkyi1 =>
  intro W' hSw
  try dsimp only at hSw
  go_simp
  first | done | with_reducible rfl
 simp only [Act.put, List.setIfInBounds_toArray, List.set_cons_zero, List.set_cons_succ]
 refine tkY 2 (some 58) rfl rfl (by kernel_rfl) (by kernel_rfl) (by kernel_rfl) (fun _ _ _ h => h) (by rfl) (v := ?tkvi2) ?tkyi2 (by assumption) rfl ?tkri2
 case tkyi2 =>
  intro W' hSw
  try dsimp only at hSw
  go_simp
  first | done | with_reducible rfl
 simp only [Act.put, List.setIfInBounds_toArray, List.set_cons_zero, List.set_cons_succ]
 refine tkY 3 (some 59) rfl rfl (by kernel_rfl) (by kernel_rfl) (by kernel_rfl) (fun _ _ _ h => h) (by rfl) (v := ?tkvi3) ?tkyi3 (by assumption) rfl ?tkri3
 case tkyi3 =>
  intro W' hSw
  try dsimp only at hSw
  go_simp
  first | done | with_reducible rfl
 simp only [Act.put, List.setIfInBounds_toArray, List.set_cons_zero, List.set_cons_succ]
 refine tkY 4 (some 60) rfl rfl (by kernel_rfl) (by kernel_rfl) (by kernel_rfl) (fun _ _ _ h => h) (by rfl) (v := ?tkvi4) ?tkyi4 (by assumption) rfl ?tkri4
 case tkyi4 =>
  intro W' hSw
  try dsimp only at hSw
  go_simp
  first | done | with_reducible rfl
 simp only [Act.put, List.setIfInBounds_toArray, List.set_cons_zero, List.set_cons_succ]
 refine tkY 6 (some 62) rfl rfl (by kernel_rfl) (by kernel_rfl) (by kernel_rfl) (fun _ _ _ h => h) (by rfl) (v := ?tkvi6) ?tkyi6 (by assumption) rfl ?tkri6
 case tkyi6 =>
  intro W' hSw
  try dsimp only at hSw
  go_simp
  first | done | with_reducible rfl
 simp only [Act.put, List.setIfInBounds_toArray, List.set_cons_zero, List.set_cons_succ]
 refine tkY 7 (some 63) rfl rfl (by kernel_rfl) (by kernel_rfl) (by kernel_rfl) (fun _ _ _ h => h) (by rfl) (v := ?tkvi7) ?tkyi7 (by assumption) rfl ?tkri7
 case tkyi7 =>
  intro W' hSw
  try dsimp only at hSw
  go_simp
  first | done | with_reducible rfl
 simp only [Act.put, List.setIfInBounds_toArray, List.set_cons_zero, List.set_cons_succ]
 refine tkY 8 (some 64) rfl rfl (by kernel_rfl) (by kernel_rfl) (by kernel_rfl) (fun _ _ _ h => h) (by rfl) (v := ?tkvi8) ?tkyi8 (by assumption) rfl ?tkri8
 case tkyi8 =>
  intro W' hSw
  try dsimp only at hSw
  go_simp
  first | done | with_reducible rfl
 simp only [Act.put, List.setIfInBounds_toArray, List.set_cons_zero, List.set_cons_succ]
 refine tkY 9 (some 65) rfl rfl (by kernel_rfl) (by kernel_rfl) (by kernel_rfl) (fun _ _ _ h => h) (by rfl) (v := ?tkvi9) ?tkyi9 (by assumption) rfl ?tkri9
 case tkyi9 =>
  intro W' hSw
  try dsimp only at hSw
  go_simp
  first | done | with_reducible rfl
 simp only [Act.put, List.setIfInBounds_toArray, List.set_cons_zero, List.set_cons_succ]
 refine tkY 10 (some 66) rfl rfl (by kernel_rfl) (by kernel_rfl) (by kernel_rfl) (fun _ _ _ h => h) (by rfl) (v := ?tkvi10) ?tkyi10 (by assumption) rfl ?tkri10
 case tkyi10 =>
  intro W' hSw
  try dsimp only at hSw
  go_simp
  first | done | with_reducible rfl
 simp only [Act.put, List.setIfInBounds_toArray, List.set_cons_zero, List.set_cons_succ]
 refine wpAnyH_ready (rs := [5]) (by kernel_rfl) (by simp) (AllReadyH.cons (at_drop rfl) (fun KC hKC => ?_) AllReadyH.nil)
 go_simp
 have hln : (l0_1.take ca).length = ca := by rw [List.length_take]; omega
 have hcl := count_calls_ A0_1 c0_1 (l0_1.take ca) a3_3 (w.heap.size + 1) _ (Kd.C_take (Kd.C_below hr0_1 hS5.below) (by omega)) (by omega) (blk_cell hS5.b1 3)
 rw [hln] at hcl
 clear hln
 refine hcl.mono ?_
 rintro e w7 ⟨rfl, hBc⟩
 have hS6 := hS5.next hBc
 clear hBc hcl
 refine hKC.out _ _ hS6.held (fun hHeld => ?_)
 clear hKC KC
 try simp only [Act.put, List.setIfInBounds_toArray, List.set_cons_zero, List.set_cons_succ]
 refine wpAnyH_ready (rs := [11]) (by kernel_rfl) (by simp) (AllReadyH.cons (at_drop rfl) (fun KC hKC => ?_) AllReadyH.nil)
 go_simp
 have hln : (l0_1.take cb).length = cb := by rw [List.length_take]; omega
 have hcl := count_calls_ A0_1 c0_1 (l0_1.take cb) a3_3 (w.heap.size + 1) _ (Kd.C_take (Kd.C_below hr0_1 hS6.below) (by omega)) (by omega) (blk_cell hS6.b1 3)
 rw [hln] at hcl
 clear hln
 refine hcl.mono ?_
 rintro e w8 ⟨rfl, hBc⟩
 have hS8 := hS6.next hBc
 clear hBc hcl
 refine hKC.out _ _ hS8.held (fun hHeld => ?_)
 clear hKC KC
 try simp only [Act.put, List.setIfInBounds_toArray, List.set_cons_zero, List.set_cons_succ]
 refine tkY 12 (some 15) rfl rfl (by kernel_rfl) (by kernel_rfl) (by kernel_rfl) (fun _ _ _ h => h) (by rfl) (v := ?tkvi12) ?tkyi12 (by assumption) rfl ?tkri12
 case tkyi12 =>
  intro W' hSw
  try dsimp only at hSw
  go_simp
  first | done | with_reducible rfl
 simp only [Act.put, List.setIfInBounds_toArray, List.set_cons_zero, List.set_cons_succ]
 refine tkY 13 (some 16) rfl rfl (by kernel_rfl) (by kernel_rfl) (by kernel_rfl) (fun _ _ _ h => h) (by rfl) (v := ?tkvi13) ?tkyi13 (by assumption) rfl ?tkri13
 case tkyi13 =>
  intro W' hSw
  try dsimp only at hSw
  go_simp
  first | done | with_reducible rfl
 simp only [Act.put, List.setIfInBounds_toArray, List.set_cons_zero, List.set_cons_succ]
 refine wpAnyH_done (by kernel_rfl) ?_ _
 clear t1 t2
 obtain ⟨hS7, -⟩ := And.intro hS8 trivial
 have hxy := cnt_take_le a3_3 l0_1 hab
 have hyn : cnt_ a3_3 (l0_1.take cb) ≤ l0_2.length := by rw [← G2.out]; exact cnt_take_all a3_3 l0_1 cb
 generalize cnt_ a3_3 (l0_1.take ca) = ex at *
 generalize cnt_ a3_3 (l0_1.take cb) = ey at *
 go_wp2_with fail
 obtain ⟨E0, s0, q0, C0⟩ := cut_row (k := Kd.int .i64) 25 3 Try.underlying25 size_int_ A0_0 c0_0 l0_0 hc0_0 ca cb hab (by omega)
 obtain ⟨E1, s1, q1, C1⟩ := cut_row (k := Kd.int .i64) 25 3 Try.underlying25 size_int_ A0_1 c0_1 l0_1 hc0_1 ca cb hab (by omega)
 obtain ⟨E2, s2, q2, C2⟩ := cut_row (k := k58) 26 58 Try.underlying26 size_dat_ A0_2 c0_2 l0_2 hc0_2 ex ey hxy hyn
 have u0 : ((l0_0.take cb).drop ca).length ≤ 1000000 := by simp only [List.length_drop, List.length_take]; omega
 have u1 : ((l0_1.take cb).drop ca).length ≤ 1000000 := by simp only [List.length_drop, List.length_take]; omega
 have u2 : ((l0_2.take ey).drop ex).length ≤ 1000000 := by simp only [List.length_drop, List.length_take]; omega
 generalize (l0_0.take cb).drop ca = L0 at *
 generalize (l0_1.take cb).drop ca = L1 at *
 generalize (l0_2.take ey).drop ex = L2 at *
 have hS9 := hS7.drew
 refine wp_region_held_drew (S := (fun W => (W.cell? ⟨w.heap.size, 0, none⟩ = some (.slice A0_0 l0_0.length c0_0) ∧ W.cell? ⟨w.heap.size, 1, none⟩ = some (.slice A0_1 l0_1.length c0_1) ∧ W.cell? ⟨w.heap.size, 2, none⟩ = some (.slice A0_2 l0_2.length c0_2)) ∧ (W.frozen? ⟨w.heap.size + 2, 0, none⟩ = false ∧ W.frozen? ⟨w.heap.size + 2, 1, none⟩ = false ∧ W.frozen? ⟨w.heap.size + 2, 2, none⟩ = false))) (by kernel_rfl) hS9.held (fun hHeld => ?_)
 generalize w8.drew = w9 at *
 refine tkY 0 (some 68) rfl rfl (by kernel_rfl) (by kernel_rfl) (by kernel_rfl) (fun _ _ _ h => h) (by rfl) (v := ?tkvj0) ?tkyj0 (by assumption) rfl ?tkrj0
 case tkyj0 =>
  intro W' hSw
  try dsimp only at hSw
  go_simp
  first | done | with_reducible rfl
 simp only [Act.put, List.setIfInBounds_toArray, List.set_cons_zero, List.set_cons_succ]
 refine tkY 1 (some 69) rfl rfl (by kernel_rfl) (by kernel_rfl) (by kernel_rfl) (fun _ _ _ h => h) (by rfl) (v := ?tkvj1) ?tkyj1 (by assumption) rfl ?tkrj1
 case tkyj1 =>
  intro W' hSw
  try dsimp only at hSw
  go_simp
  first | done | with_reducible rfl
 simp only [Act.put, List.setIfInBounds_toArray, List.set_cons_zero, List.set_cons_succ]
 refine tkY 2 (some 70) rfl rfl (by kernel_rfl) (by kernel_rfl) (by kernel_rfl) (fun _ _ _ h => h) (by rfl) (v := ?tkvj2) ?tkyj2 (by assumption) rfl ?tkrj2
 case tkyj2 =>
  intro W' hSw
  try dsimp only at hSw
  go_simp
  first | done | with_reducible rfl
 simp only [Act.put, List.setIfInBounds_toArray, List.set_cons_zero, List.set_cons_succ]
 refine tkY 3 (some 71) rfl rfl (by kernel_rfl) (by kernel_rfl) (by kernel_rfl) (fun _ _ _ h => h) (by rfl) (v := ?tkvj3) ?tkyj3 (by assumption) rfl ?tkrj3
 case tkyj3 =>
  intro W' hSw
  try dsimp only at hSw
  go_simp
  first | done | with_reducible rfl
 simp only [Act.put, List.setIfInBounds_toArray, List.set_cons_zero, List.set_cons_succ]
 refine tkY 4 (some 72) rfl rfl (by kernel_rfl) (by kernel_rfl) (by kernel_rfl) (fun _ _ _ h => h) (by rfl) (v := ?tkvj4) ?tkyj4 (by assumption) rfl ?tkrj4
 case tkyj4 =>
  intro W' hSw
  try dsimp only at hSw
  go_simp
  first | done | with_reducible rfl
 simp only [Act.put, List.setIfInBounds_toArray, List.set_cons_zero, List.set_cons_succ]
 refine tkY 5 (some 73) rfl rfl (by kernel_rfl) (by kernel_rfl) (by kernel_rfl) (fun _ _ _ h => h) (by rfl) (v := ?tkvj5) ?tkyj5 (by assumption) rfl ?tkrj5
 case tkyj5 =>
  intro W' hSw
  try dsimp only at hSw
  go_simp
  first | done | with_reducible rfl
 simp only [Act.put, List.setIfInBounds_toArray, List.set_cons_zero, List.set_cons_succ]
 refine tkY 6 (some 74) rfl rfl (by kernel_rfl) (by kernel_rfl) (by kernel_rfl) (fun _ _ _ h => h) (by rfl) (v := ?tkvj6) ?tkyj6 (by assumption) rfl ?tkrj6
 case tkyj6 =>
  intro W' hSw
  try dsimp only at hSw
  go_simp
  first | done | with_reducible rfl
 simp only [Act.put, List.setIfInBounds_toArray, List.set_cons_zero, List.set_cons_succ]
 refine tkY 7 (some 75) rfl rfl (by kernel_rfl) (by kernel_rfl) (by kernel_rfl) (fun _ _ _ h => h) (by rfl) (v := ?tkvj7) ?tkyj7 (by assumption) rfl ?tkrj7
 case tkyj7 =>
  intro W' hSw
  try dsimp only at hSw
  go_simp
  first | done | with_reducible rfl
 simp only [Act.put, List.setIfInBounds_toArray, List.set_cons_zero, List.set_cons_succ]
 refine tkY 8 (some 76) rfl rfl (by kernel_rfl) (by kernel_rfl) (by kernel_rfl) (fun _ _ _ h => h) (by rfl) (v := ?tkvj8) ?tkyj8 (by assumption) rfl ?tkrj8
 case tkyj8 =>
  intro W' hSw
  try dsimp only at hSw
  go_simp
  first | done | with_reducible rfl
 simp only [Act.put, List.setIfInBounds_toArray, List.set_cons_zero, List.set_cons_succ]
 refine tkY 9 (some 77) rfl rfl (by kernel_rfl) (by kernel_rfl) (by kernel_rfl) (fun _ _ _ h => h) (by rfl) (v := ?tkvj9) ?tkyj9 (by assumption) rfl ?tkrj9
 case tkyj9 =>
  intro W' hSw
  try dsimp only at hSw
  go_simp
  first | done | with_reducible rfl
 simp only [Act.put, List.setIfInBounds_toArray, List.set_cons_zero, List.set_cons_succ]
 refine tkY 10 (some 78) rfl rfl (by kernel_rfl) (by kernel_rfl) (by kernel_rfl) (fun _ _ _ h => h) (by rfl) (v := ?tkvj10) ?tkyj10 (by assumption) rfl ?tkrj10
 case tkyj10 =>
  intro W' hSw
  try dsimp only at hSw
  go_simp
  first | done | with_reducible rfl
 simp only [Act.put, List.setIfInBounds_toArray, List.set_cons_zero, List.set_cons_succ]
 refine tkY 11 (some 79) rfl rfl (by kernel_rfl) (by kernel_rfl) (by kernel_rfl) (fun _ _ _ h => h) (by rfl) (v := ?tkvj11) ?tkyj11 (by assumption) rfl ?tkrj11
 case tkyj11 =>
  intro W' hSw
  try dsimp only at hSw
  go_simp
  first | done | with_reducible rfl
 simp only [Act.put, List.setIfInBounds_toArray, List.set_cons_zero, List.set_cons_succ]
 refine tkY 12 (some 80) rfl rfl (by kernel_rfl) (by kernel_rfl) (by kernel_rfl) (fun _ _ _ h => h) (by rfl) (v := ?tkvj12) ?tkyj12 (by assumption) rfl ?tkrj12
 case tkyj12 =>
  intro W' hSw
  try dsimp only at hSw
  go_simp
  first | done | with_reducible rfl
 simp only [Act.put, List.setIfInBounds_toArray, List.set_cons_zero, List.set_cons_succ]
 refine tkY 13 (some 81) rfl rfl (by kernel_rfl) (by kernel_rfl) (by kernel_rfl) (fun _ _ _ h => h) (by rfl) (v := ?tkvj13) ?tkyj13 (by assumption) rfl ?tkrj13
 case tkyj13 =>
  intro W' hSw
  try dsimp only at hSw
  go_simp
  first | done | with_reducible rfl
 simp only [Act.put, List.setIfInBounds_toArray, List.set_cons_zero, List.set_cons_succ]
 refine tkY 14 (some 82) rfl rfl (by kernel_rfl) (by kernel_rfl) (by kernel_rfl) (fun _ _ _ h => h) (by rfl) (v := ?tkvj14) ?tkyj14 (by assumption) rfl ?tkrj14
 case tkyj14 =>
  intro W' hSw
  try dsimp only at hSw
  go_simp
  first | done | with_reducible rfl
 simp only [Act.put, List.setIfInBounds_toArray, List.set_cons_zero, List.set_cons_succ]
 refine tkY 15 (some 83) rfl rfl (by kernel_rfl) (by kernel_rfl) (by kernel_rfl) (fun _ _ _ h => h) (by rfl) (v := ?tkvj15) ?tkyj15 (by assumption) rfl ?tkrj15
 case tkyj15 =>
  intro W' hSw
  try dsimp only at hSw
  go_simp
  first | done | with_reducible rfl
 simp only [Act.put, List.setIfInBounds_toArray, List.set_cons_zero, List.set_cons_succ]
 refine wpAnyH_ready (rs := [16]) (by kernel_rfl) (by simp) (AllReadyH.cons (at_drop rfl) (fun KC hKC => ?_) AllReadyH.nil)
 go_simp
 refine (shred_Copy.calls E0 (c0_0 - ca) L0 E1 (c0_1 - ca) L1 E2 (c0_2 - ex) L2 L0 L1 L2 _ (C0 _ (Kd.C_below hr0_0 hS9.below)) q0 (C1 _ (Kd.C_below hr0_1 hS9.below)) q1 (C2 _ (Kd.C_below hr0_2 hS9.below)) q2 (by unfold shred_Copy.f; rw [if_pos ⟨u0, u1, u2⟩])).mono ?_
 rintro e wA ⟨v0, v1, v2, rfl, Q0, Q1, Q2, hBA⟩
 obtain ⟨F0, d0, rfl⟩ := Kd.R_slice Q0
 obtain ⟨F1, d1, rfl⟩ := Kd.R_slice Q1
 obtain ⟨F2, d2, rfl⟩ := Kd.R_slice Q2
 have hSA := hS9.next hBA
 refine hKC.out _ _ hSA.held (fun hHeld => ?_)
 clear hKC KC
 try simp only [Act.put, List.setIfInBounds_toArray, List.set_cons_zero, List.set_cons_succ]
 obtain ⟨-, -, ⟨z0, z1, z2⟩, -⟩ := hSA.cells
 refine wpAnyH_ready (rs := [17]) (by kernel_rfl) (by simp) (AllReadyH.cons (at_drop rfl) (fun KC hKC => ?_) AllReadyH.nil)
 go_simp
 refine hKC.out _ _ (hSA.put _ _ _).held (fun hHeld => ?_)
 clear hKC KC
 try simp only [Act.put, List.setIfInBounds_toArray, List.set_cons_zero, List.set_cons_succ]
 clear z0 z1 z2
 refine tkY 18 (some 9) rfl rfl (by kernel_rfl) (by kernel_rfl) (by kernel_rfl) (fun _ _ _ h => h) (by rfl) (v := ?tkvj18) ?tkyj18 (by assumption) rfl ?tkrj18
 case tkyj18 =>
  intro W' hSw
  try dsimp only at hSw
  go_simp
  first | done | with_reducible rfl
 simp only [Act.put, List.setIfInBounds_toArray, List.set_cons_zero, List.set_cons_succ]
 refine wpAnyH_done (by kernel_rfl) ?_ _
 go_wp2_with fail
 have z0 := Kd.R_lower Q0 (below_size hS9.below)
 have z1 := Kd.R_lower Q1 (below_size hS9.below)
 have z2 := Kd.R_lower Q2 (below_size hS9.below)
 obtain ⟨rfl, rfl, rfl⟩ := HR.out
 refine bodyPost_ret (results_ct rfl _ _ (w.heap.size + 2) 28 #[.slice F0 L0.length d0, .slice F1 L1.length d1, .slice F2 L2.length d2] (0, 0) _ rfl (putC hSA.b2 _ _ _) Try.underlying28 rfl (by kernel_rfl)) rfl ?_
 exact ⟨_, _, _, rfl, setR z0 hSA.b2 (by decide) _ _ _, setR z1 hSA.b2 (by decide) _ _ _, setR z2 hSA.b2 (by decide) _ _ _, (hSA.put _ _ _).below⟩


end Go.Proofs.Yteokhlpleimnbaa.H
end
