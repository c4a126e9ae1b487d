/- Texts of the claim, packed: H34, H35, H60, H37, H39. -/
import Derived.BigRegion
import Derived.Deep.RegionHeld3
import Derived.Deep.RegionWith
import Derived.Lib.Hide
import Derived.Maps.Own
import Derived.Outline
import Derived.WalkLawsBesides
import Derived.Test.YtncehlbhjoejhaaZRangesParts4
import Derived.Test.YtncehlbhjoejhaaZRangesParts5
import Derived.Test.YtncehlbhjoejhaaZRangesParts6
import Derived.Test.YtncehlbhjoejhaaZRangesParts9
import Derived.Test.YtncehlbhjoejhaaZRangesParts11
import Derived.Test.YtncehlbhjoejhaaZRangesParts12
import Derived.Test.YtncehlbhjoejhaaZRangesParts15
import Derived.Test.YtncehlbhjoejhaaZRangesParts16
import Derived.Test.YtncehlbhjoejhaaZRangesParts17
section
-- Laid by this session's hprint.py, out of the kit's print.py and texts of the session. Not trusted: Lean checks it.
namespace Go.Proofs.Ytncehlbhjoejhaa.H
open Go.RowKit Go.Proofs.YtncehlbhjoejhaaW.PrintWords Go.Proofs.YtncehlbhjoejhaaW.PrintLast Go.Proofs.YtncehlbhjoejhaaW.PrintMore
attribute [local go_sem] max2_int min2_int max_two min_two max_three min_three max_four min_four   -- for this text's walks alone
set_option linter.unusedVariables false
set_option linter.unusedSimpArgs false

-- OVPART Derived.Lib.Hide Derived.Deep.RegionHeld3 Derived.Outline Derived.BigRegion Derived.Deep.RegionWith
/-! ### ranges_ends: function 45 -/
def ranges_ends.f (t0 t1 n : Int) (has : Bool) (least most : ByteArray) : Option (Int × Int × ByteArray × Int × Int × ByteArray × Bool) :=
  (ranges_Read.f t0 t1 least).bind fun a => (ranges_Read.f t0 t1 most).bind fun b =>
    if a.2.2.2 ≠ 0 ∨ b.2.2.2 ≠ 0 then some (a.1, a.2.1, a.2.2.1, b.1, b.2.1, b.2.2.1, false)
    else (datum_Compare.f a.1 a.2.1 a.2.2.1 b.1 b.2.1 b.2.2.1).bind fun c => some (a.1, a.2.1, a.2.2.1, b.1, b.2.1, b.2.2.1, c.2 && decide (c.1 ≤ 0) && decide (zI (signOf t0) true a.2.1 = a.2.1) && decide (zI (signOf t0) false b.2.1 = b.2.1))
theorem read_good {t0 t1 k i : Int} {s t : ByteArray} (h : ranges_Read.f t0 t1 s = some (k, i, t, 0)) : datum_Check.v t0 t1 = 0 := by
  unfold ranges_Read.f at h
  split at h
  case isFalse => cases h
  case isTrue hlen =>
  split at h
  · simp at h
  · rename_i hc
    exact Decidable.not_not.mp hc
theorem at_drop {α : Type} {ops : Array α} {i : Nat} {o : α} {rest : List α} (h : ops.toList.drop i = o :: rest) : ops[i]? = some o := by
  rw [← Array.getElem?_toList]
  have e : (ops.toList.drop i)[0]? = some o := by rw [h]; rfl
  simpa using e
/-- An operation of a region that draws its order is taken first: it yields in every world that meets S. -/
theorem tkY {P : Program} {ops : Array Oper} {Q : Exit → Act → World → Prop} {S : World → Prop} {md : Region.Mode} (i : Nat) (N : Option Tmp) {oi : Oper} {rest : List Oper} {v : Value} {fuel : Nat} {listed : Array Bool} {a a' : Act} {w : World} (hl : ops.toList.drop i = oi :: rest) (hN : oi.dst = N)
    (hs : Region.noSelect ops = true) (hf : Region.free md ops listed i = true) (hr : (Region.ready md ops listed).contains i = true)
    (hQ : ∀ c a w, Q (.panic c) (a.put N v) w → Q (.panic c) a w) (hw : Region.wanted oi (yielded ops a.tmps) = true) (hv : ∀ w, S w → (execOp a.eval oi).run P w = .ok (.value v) w) (hS : S w) (ha : a.put N v = a')
    (h : wpAnyH P md ops Q S fuel (listed.setIfInBounds i true) a' w) : wpAnyH P md ops Q S (fuel + 1) listed a w := by
  subst hN
  subst ha
  exact wpAnyH_take (at_drop hl) hs hf hr hQ (.inl ⟨hw, hv⟩) hS h
/-- An operation whose guard says that it is not wanted is passed by. -/
theorem tkN {P : Program} {ops : Array Oper} {Q : Exit → Act → World → Prop} {S : World → Prop} {md : Region.Mode} (i : Nat) (N : Option Tmp) {oi : Oper} {rest : List Oper} {fuel : Nat} {listed : Array Bool} {a a' : Act} {w : World} (hl : ops.toList.drop i = oi :: rest) (hN : oi.dst = N)
    (hs : Region.noSelect ops = true) (hf : Region.free md ops listed i = true) (hr : (Region.ready md ops listed).contains i = true)
    (hQ : ∀ c a w, Q (.panic c) (a.put N undef) w → Q (.panic c) a w) (hw : Region.wanted oi (yielded ops a.tmps) = false) (hS : S w) (ha : a.put N undef = a')
    (h : wpAnyH P md ops Q S fuel (listed.setIfInBounds i true) a' w) : wpAnyH P md ops Q S (fuel + 1) listed a w := by
  subst hN
  subst ha
  exact wpAnyH_take (at_drop hl) hs hf hr hQ (.inr ⟨hw, rfl⟩) hS h
structure SE (w W : World) (t0 t1 n : Int) (has : Bool) (least most : ByteArray) (a b : S29) : Prop where
  b0 : W.heap[w.heap.size]? = some (.cells #[.int .i64 t0, .int .i64 t1] 24 (0, 0))
  b1 : W.heap[w.heap.size + 1]? = some (.cells #[.int .i64 n, .bool has, .string least, .string most] 31 (0, 0))
  b2 : W.heap[w.heap.size + 1 + 1]? = some (.cells #[.int .i64 a.f0, .int .i64 a.f1, .string a.f2] 29 (0, 0))
  b3 : W.heap[w.heap.size + 1 + 1 + 1]? = some (.cells #[.int .i64 b.f0, .int .i64 b.f1, .string b.f2] 29 (0, 0))
  below : Below w.heap.size w W
theorem SE.next {w W W' : World} {t0 t1 n : Int} {has : Bool} {least most : ByteArray} {a b : S29} (h : SE w W t0 t1 n has least most a b) (hb : Below W.heap.size W W') : SE w W' t0 t1 n has least most a b := ⟨blk_below h.b0 hb, blk_below h.b1 hb, blk_below h.b2 hb, blk_below h.b3 hb, below_step h.below hb⟩
theorem SE.start (w : World) (t0 t1 n : Int) (has : Bool) (least most : ByteArray) : SE w ((((w.alloc (.cells #[.int .i64 t0, .int .i64 t1] 24)).alloc (.cells #[.int .i64 n, .bool has, .string least, .string most] 31)).alloc (.cells #[.int .i64 0, .int .i64 0, .string ⟨#[]⟩] 29)).alloc (.cells #[.int .i64 0, .int .i64 0, .string ⟨#[]⟩] 29)) t0 t1 n has least most ⟨0, 0, ⟨#[]⟩⟩ ⟨0, 0, ⟨#[]⟩⟩ := by
  refine ⟨blk_alloc (blk_alloc (blk_alloc (blk_new w _) _) _) _, blk_alloc (blk_alloc ?_ _) _, blk_alloc ?_ _, ?_, below_alloc (below_alloc (below_alloc (below_alloc (Below.refl _ _) _) _) _) _⟩
  · have h := blk_new (w.alloc (.cells #[.int .i64 t0, .int .i64 t1] 24)) (.cells #[.int .i64 n, .bool has, .string least, .string most] 31)
    simp only [World.size_alloc] at h
    exact h
  · have h := blk_new ((w.alloc (.cells #[.int .i64 t0, .int .i64 t1] 24)).alloc (.cells #[.int .i64 n, .bool has, .string least, .string most] 31)) (.cells #[.int .i64 0, .int .i64 0, .string ⟨#[]⟩] 29)
    simp only [World.size_alloc] at h
    exact h
  · have h := blk_new (((w.alloc (.cells #[.int .i64 t0, .int .i64 t1] 24)).alloc (.cells #[.int .i64 n, .bool has, .string least, .string most] 31)).alloc (.cells #[.int .i64 0, .int .i64 0, .string ⟨#[]⟩] 29)) (.cells #[.int .i64 0, .int .i64 0, .string ⟨#[]⟩] 29)
    simp only [World.size_alloc] at h
    exact h
/-- The cells that the drawn regions read. -/
def SC (w W : World) (t0 t1 : Int) (a b : S29) : Prop :=
  (W.cell? ⟨w.heap.size, 0, none⟩ = some (.int .i64 t0) ∧ W.cell? ⟨w.heap.size, 1, none⟩ = some (.int .i64 t1)) ∧
    (W.cell? ⟨w.heap.size + 1 + 1, 0, none⟩ = some (.int .i64 a.f0) ∧ W.cell? ⟨w.heap.size + 1 + 1, 1, none⟩ = some (.int .i64 a.f1) ∧ W.cell? ⟨w.heap.size + 1 + 1, 2, none⟩ = some (.string a.f2)) ∧
    (W.cell? ⟨w.heap.size + 1 + 1 + 1, 0, none⟩ = some (.int .i64 b.f0) ∧ W.cell? ⟨w.heap.size + 1 + 1 + 1, 1, none⟩ = some (.int .i64 b.f1) ∧ W.cell? ⟨w.heap.size + 1 + 1 + 1, 2, none⟩ = some (.string b.f2)) ∧
    (W.frozen? ⟨w.heap.size + 1 + 1, 0, none⟩ = false ∧ W.frozen? ⟨w.heap.size + 1 + 1, 1, none⟩ = false ∧ W.frozen? ⟨w.heap.size + 1 + 1, 2, none⟩ = false) ∧
    (W.frozen? ⟨w.heap.size + 1 + 1 + 1, 0, none⟩ = false ∧ W.frozen? ⟨w.heap.size + 1 + 1 + 1, 1, none⟩ = false ∧ W.frozen? ⟨w.heap.size + 1 + 1 + 1, 2, none⟩ = false)
theorem SE.cells {w W : World} {t0 t1 n : Int} {has : Bool} {least most : ByteArray} {a b : S29} (h : SE w W t0 t1 n has least most a b) : SC w W t0 t1 a b ∧ W.cell? ⟨w.heap.size + 1, 2, none⟩ = some (.string least) ∧ W.cell? ⟨w.heap.size + 1, 3, none⟩ = some (.string most) :=
  ⟨⟨⟨blk_cell h.b0 0, blk_cell h.b0 1⟩, ⟨blk_cell h.b2 0, blk_cell h.b2 1, blk_cell h.b2 2⟩, ⟨blk_cell h.b3 0, blk_cell h.b3 1, blk_cell h.b3 2⟩, ⟨blk_frozen h.b2 0, blk_frozen h.b2 1, blk_frozen h.b2 2⟩, ⟨blk_frozen h.b3 0, blk_frozen h.b3 1, blk_frozen h.b3 2⟩⟩, blk_cell h.b1 2, blk_cell h.b1 3⟩
theorem SE.setA {w W : World} {t0 t1 n : Int} {has : Bool} {least most : ByteArray} {a b : S29} (h : SE w W t0 t1 n has least most a b) (k i : Int) (s : ByteArray) : SE w (((W.setCell ⟨w.heap.size + 1 + 1, 0, none⟩ (.int .i64 k)).setCell ⟨w.heap.size + 1 + 1, 1, none⟩ (.int .i64 i)).setCell ⟨w.heap.size + 1 + 1, 2, none⟩ (.string s)) t0 t1 n has least most ⟨k, i, s⟩ b := by
  have ne0 : w.heap.size ≠ w.heap.size + 1 + 1 := by omega
  have ne1 : w.heap.size + 1 ≠ w.heap.size + 1 + 1 := by omega
  have ne3 : w.heap.size + 1 + 1 + 1 ≠ w.heap.size + 1 + 1 := by omega
  have le : w.heap.size ≤ w.heap.size + 1 + 1 := by omega
  exact ⟨blk_far (blk_far (blk_far h.b0 (p := ⟨w.heap.size + 1 + 1, 0, none⟩) ne0 _) (p := ⟨w.heap.size + 1 + 1, 1, none⟩) ne0 _) (p := ⟨w.heap.size + 1 + 1, 2, none⟩) ne0 _, blk_far (blk_far (blk_far h.b1 (p := ⟨w.heap.size + 1 + 1, 0, none⟩) ne1 _) (p := ⟨w.heap.size + 1 + 1, 1, none⟩) ne1 _) (p := ⟨w.heap.size + 1 + 1, 2, none⟩) ne1 _, put3 h.b2 _ _ _, blk_far (blk_far (blk_far h.b3 (p := ⟨w.heap.size + 1 + 1, 0, none⟩) ne3 _) (p := ⟨w.heap.size + 1 + 1, 1, none⟩) ne3 _) (p := ⟨w.heap.size + 1 + 1, 2, none⟩) ne3 _, ((h.below.setCell (p := ⟨w.heap.size + 1 + 1, 0, none⟩) le _).setCell (p := ⟨w.heap.size + 1 + 1, 1, none⟩) le _).setCell (p := ⟨w.heap.size + 1 + 1, 2, none⟩) le _⟩
theorem SE.setB {w W : World} {t0 t1 n : Int} {has : Bool} {least most : ByteArray} {a b : S29} (h : SE w W t0 t1 n has least most a b) (k i : Int) (s : ByteArray) : SE w (((W.setCell ⟨w.heap.size + 1 + 1 + 1, 0, none⟩ (.int .i64 k)).setCell ⟨w.heap.size + 1 + 1 + 1, 1, none⟩ (.int .i64 i)).setCell ⟨w.heap.size + 1 + 1 + 1, 2, none⟩ (.string s)) t0 t1 n has least most a ⟨k, i, s⟩ := by
  have ne0 : w.heap.size ≠ w.heap.size + 1 + 1 + 1 := by omega
  have ne1 : w.heap.size + 1 ≠ w.heap.size + 1 + 1 + 1 := by omega
  have ne2 : w.heap.size + 1 + 1 ≠ w.heap.size + 1 + 1 + 1 := by omega
  have le : w.heap.size ≤ w.heap.size + 1 + 1 + 1 := by omega
  exact ⟨blk_far (blk_far (blk_far h.b0 (p := ⟨w.heap.size + 1 + 1 + 1, 0, none⟩) ne0 _) (p := ⟨w.heap.size + 1 + 1 + 1, 1, none⟩) ne0 _) (p := ⟨w.heap.size + 1 + 1 + 1, 2, none⟩) ne0 _, blk_far (blk_far (blk_far h.b1 (p := ⟨w.heap.size + 1 + 1 + 1, 0, none⟩) ne1 _) (p := ⟨w.heap.size + 1 + 1 + 1, 1, none⟩) ne1 _) (p := ⟨w.heap.size + 1 + 1 + 1, 2, none⟩) ne1 _, blk_far (blk_far (blk_far h.b2 (p := ⟨w.heap.size + 1 + 1 + 1, 0, none⟩) ne2 _) (p := ⟨w.heap.size + 1 + 1 + 1, 1, none⟩) ne2 _) (p := ⟨w.heap.size + 1 + 1 + 1, 2, none⟩) ne2 _, put3 h.b3 _ _ _, ((h.below.setCell (p := ⟨w.heap.size + 1 + 1 + 1, 0, none⟩) le _).setCell (p := ⟨w.heap.size + 1 + 1 + 1, 1, none⟩) le _).setCell (p := ⟨w.heap.size + 1 + 1 + 1, 2, none⟩) le _⟩
theorem SE.drew {w W : World} {t0 t1 n : Int} {has : Bool} {least most : ByteArray} {a b : S29} (h : SE w W t0 t1 n has least most a b) : SE w W.drew t0 t1 n has least most a b := ⟨h.b0, h.b1, h.b2, h.b3, h.below.drew⟩
theorem SE.held {w W : World} {t0 t1 n : Int} {has : Bool} {least most : ByteArray} {ak ai bk bi : Int} {at_ bt_ : ByteArray} (h : SE w W t0 t1 n has least most ⟨ak, ai, at_⟩ ⟨bk, bi, bt_⟩) :
    (W.cell? ⟨w.heap.size + 1 + 1, 0, none⟩ = some (.int .i64 ak) ∧ W.cell? ⟨w.heap.size + 1 + 1, 1, none⟩ = some (.int .i64 ai) ∧ W.cell? ⟨w.heap.size + 1 + 1, 2, none⟩ = some (.string at_)) ∧ (W.cell? ⟨w.heap.size + 1 + 1 + 1, 0, none⟩ = some (.int .i64 bk) ∧ W.cell? ⟨w.heap.size + 1 + 1 + 1, 1, none⟩ = some (.int .i64 bi) ∧ W.cell? ⟨w.heap.size + 1 + 1 + 1, 2, none⟩ = some (.string bt_)) ∧ (W.frozen? ⟨w.heap.size + 1 + 1, 0, none⟩ = false ∧ W.frozen? ⟨w.heap.size + 1 + 1, 1, none⟩ = false ∧ W.frozen? ⟨w.heap.size + 1 + 1, 2, none⟩ = false) ∧ (W.frozen? ⟨w.heap.size + 1 + 1 + 1, 0, none⟩ = false ∧ W.frozen? ⟨w.heap.size + 1 + 1 + 1, 1, none⟩ = false ∧ W.frozen? ⟨w.heap.size + 1 + 1 + 1, 2, none⟩ = false) :=
  ⟨⟨blk_cell h.b2 0, blk_cell h.b2 1, blk_cell h.b2 2⟩, ⟨blk_cell h.b3 0, blk_cell h.b3 1, blk_cell h.b3 2⟩, ⟨blk_frozen h.b2 0, blk_frozen h.b2 1, blk_frozen h.b2 2⟩, ⟨blk_frozen h.b3 0, blk_frozen h.b3 1, blk_frozen h.b3 2⟩⟩
theorem SE.heldT {w W : World} {t0 t1 n : Int} {has : Bool} {least most : ByteArray} {ak ai bk bi : Int} {at_ bt_ : ByteArray} (h : SE w W t0 t1 n has least most ⟨ak, ai, at_⟩ ⟨bk, bi, bt_⟩) :
    W.cell? ⟨w.heap.size, 0, none⟩ = some (.int .i64 t0) ∧ (W.cell? ⟨w.heap.size + 1 + 1, 0, none⟩ = some (.int .i64 ak) ∧ W.cell? ⟨w.heap.size + 1 + 1, 1, none⟩ = some (.int .i64 ai) ∧ W.cell? ⟨w.heap.size + 1 + 1, 2, none⟩ = some (.string at_)) ∧ (W.cell? ⟨w.heap.size + 1 + 1 + 1, 0, none⟩ = some (.int .i64 bk) ∧ W.cell? ⟨w.heap.size + 1 + 1 + 1, 1, none⟩ = some (.int .i64 bi) ∧ W.cell? ⟨w.heap.size + 1 + 1 + 1, 2, none⟩ = some (.string bt_)) ∧ (W.frozen? ⟨w.heap.size + 1 + 1, 0, none⟩ = false ∧ W.frozen? ⟨w.heap.size + 1 + 1, 1, none⟩ = false ∧ W.frozen? ⟨w.heap.size + 1 + 1, 2, none⟩ = false) ∧ (W.frozen? ⟨w.heap.size + 1 + 1 + 1, 0, none⟩ = false ∧ W.frozen? ⟨w.heap.size + 1 + 1 + 1, 1, none⟩ = false ∧ W.frozen? ⟨w.heap.size + 1 + 1 + 1, 2, none⟩ = false) := ⟨blk_cell h.b0 0, h.held⟩
theorem SE.end {fn : Func} {w W : World} {t0 t1 n : Int} {has : Bool} {least most : ByteArray} {a b : S29} {tmps : Array Value} {p q u : Tmp} (h : SE w W t0 t1 n has least most a b) (hr : fn.results = #[.cell p 29, .cell q 29, .tmp u])
    (hp : tmps.getD p undef = .pointer (some ⟨w.heap.size + 1 + 1, 0, none⟩)) (hq : tmps.getD q undef = .pointer (some ⟨w.heap.size + 1 + 1 + 1, 0, none⟩)) :
    (results fn tmps).run Try.prog W = .ok (.tuple #[.agg #[.int .i64 a.f0, .int .i64 a.f1, .string a.f2], .agg #[.int .i64 b.f0, .int .i64 b.f1, .string b.f2], tmps.getD u undef]) W :=
  results_list (rs := [.cell p 29, .cell q 29, .tmp u]) hr (by simp) (.cell _ _ _ _ _ hp h.b2 Try.underlying29 rfl (by kernel_rfl) (.cell _ _ _ _ _ hq h.b3 Try.underlying29 rfl (by kernel_rfl) (.tmp .nil)))
theorem beq_dec (x y : Int) : (x == y) = decide (x = y) := rfl
attribute [local go_sem high] eqA29
set_option maxHeartbeats 8000000 in
set_option maxRecDepth 100000 in
theorem ranges_ends.calls (a0_0 : Int) (a0_1 : Int) (a1_0 : Int) (a1_1 : Bool) (a1_2 : ByteArray) (a1_3 : ByteArray) (r1 : Int) (r2 : Int) (r3 : ByteArray) (r4 : Int) (r5 : Int) (r6 : ByteArray) (r7 : Bool) (w : World) (h : ranges_ends.f a0_0 a0_1 a1_0 a1_1 a1_2 a1_3 = some (r1, r2, r3, r4, r5, r6, r7)) :
    Calls Try.prog 45 #[.agg #[.int .i64 a0_0, .int .i64 a0_1], .agg #[.int .i64 a1_0, .bool a1_1, .string a1_2, .string a1_3]] w fun e w' => e = .returned (.tuple #[.agg #[.int .i64 r1, .int .i64 r2, .string r3], .agg #[.int .i64 r4, .int .i64 r5, .string r6], .bool r7]) ∧ Below w.heap.size w w' := by
  unfold ranges_ends.f at h
  obtain ⟨⟨ak, ai, at_, ae⟩, hra, h1⟩ := Option.bind_eq_some_iff.mp h
  obtain ⟨⟨bk, bi, bt_, be⟩, hrb, h2⟩ := Option.bind_eq_some_iff.mp h1
  clear h h1
  have h := h2
  clear h2
  have hS := SE.start w a0_0 a0_1 a1_0 a1_1 a1_2 a1_3
  obtain ⟨W0, hW0⟩ : ∃ W0, W0 = ((((w.alloc (.cells #[.int .i64 a0_0, .int .i64 a0_1] 24)).alloc (.cells #[.int .i64 a1_0, .bool a1_1, .string a1_2, .string a1_3] 31)).alloc (.cells #[.int .i64 0, .int .i64 0, .string ⟨#[]⟩] 29)).alloc (.cells #[.int .i64 0, .int .i64 0, .string ⟨#[]⟩] 29)) := ⟨_, rfl⟩
  rw [← hW0] at hS
  have HW0 := Lib.hid hW0
  have HRA := Lib.hid hra
  have HRB := Lib.hid hrb
  clear hW0 hra hrb
  by_cases hbad : ae ≠ 0 ∨ be ≠ 0
  · rw [if_pos hbad] at h
    simp only [Option.some.injEq, Prod.mk.injEq] at h
    obtain ⟨rfl, rfl, rfl, rfl, rfl, rfl, rfl⟩ := h
    have hb1 : (ae != 0) = true ∨ (ae != 0) = false ∧ (be != 0) = true := by
      by_cases h : ae = 0
      · exact .inr ⟨bne_eq_false_iff_eq.mpr h, bne_iff_ne.mpr (hbad.resolve_left (fun hh => hh h))⟩
      · exact .inl (bne_iff_ne.mpr h)
    clear hbad
    rcases hb1 with hb1 | ⟨hb1, hb2⟩
    all_goals
      go_enter Try.func45, Try.ntmps45
      go_wp2_with fail
      rw [← HW0.out]
      refine (ranges_Read.calls a0_0 a0_1 a1_2 _ _ _ _ W0 HRA.out).mono ?_
      rintro e w1 ⟨rfl, hB1⟩
      have hS1 := hS.next hB1
      have hsA := hS1.setA ak ai at_
      obtain ⟨⟨⟨c00, c01⟩, ⟨c20, c21, c22⟩, ⟨c30, c31, c32⟩, ⟨f20, f21, f22⟩, ⟨f30, f31, f32⟩⟩, c12, c13⟩ := hS1.cells
      go_wp2_with fail
      generalize hWA : (((w1.setCell ⟨w.heap.size + 1 + 1, 0, none⟩ (.int .i64 ak)).setCell ⟨w.heap.size + 1 + 1, 1, none⟩ (.int .i64 ai)).setCell ⟨w.heap.size + 1 + 1, 2, none⟩ (.string at_)) = WA at *
      clear hWA c00 c01 c20 c21 c22 c30 c31 c32 f20 f21 f22 f30 f31 f32 c12 c13 hS1 hB1
      refine (ranges_Read.calls a0_0 a0_1 a1_3 _ _ _ _ WA HRB.out).mono ?_
      rintro e w2 ⟨rfl, hB2⟩
      have hS2 := hsA.next hB2
      have hsB := hS2.setB bk bi bt_
      obtain ⟨⟨⟨c00, c01⟩, ⟨c20, c21, c22⟩, ⟨c30, c31, c32⟩, ⟨f20, f21, f22⟩, ⟨f30, f31, f32⟩⟩, c12, c13⟩ := hS2.cells
      go_wp2_with fail
      generalize hWB : (((w2.setCell ⟨w.heap.size + 1 + 1 + 1, 0, none⟩ (.int .i64 bk)).setCell ⟨w.heap.size + 1 + 1 + 1, 1, none⟩ (.int .i64 bi)).setCell ⟨w.heap.size + 1 + 1 + 1, 2, none⟩ (.string bt_)) = WB at *
      clear hWB c00 c01 c20 c21 c22 c30 c31 c32 f20 f21 f22 f30 f31 f32 c12 c13 hS2 hB2 hsA
      obtain ⟨⟨⟨c00, c01⟩, ⟨c20, c21, c22⟩, ⟨c30, c31, c32⟩, ⟨f20, f21, f22⟩, ⟨f30, f31, f32⟩⟩, c12, c13⟩ := hsB.cells
      first | (go_region_held3 (fun W => (W.cell? ⟨w.heap.size + 1 + 1, 0, none⟩ = some (.int .i64 ak) ∧ W.cell? ⟨w.heap.size + 1 + 1, 1, none⟩ = some (.int .i64 ai) ∧ W.cell? ⟨w.heap.size + 1 + 1, 2, none⟩ = some (.string at_)) ∧ (W.cell? ⟨w.heap.size + 1 + 1 + 1, 0, none⟩ = some (.int .i64 bk) ∧ W.cell? ⟨w.heap.size + 1 + 1 + 1, 1, none⟩ = some (.int .i64 bi) ∧ W.cell? ⟨w.heap.size + 1 + 1 + 1, 2, none⟩ = some (.string bt_)) ∧ (W.frozen? ⟨w.heap.size + 1 + 1, 0, none⟩ = false ∧ W.frozen? ⟨w.heap.size + 1 + 1, 1, none⟩ = false ∧ W.frozen? ⟨w.heap.size + 1 + 1, 2, none⟩ = false) ∧ (W.frozen? ⟨w.heap.size + 1 + 1 + 1, 0, none⟩ = false ∧ W.frozen? ⟨w.heap.size + 1 + 1 + 1, 1, none⟩ = false ∧ W.frozen? ⟨w.heap.size + 1 + 1 + 1, 2, none⟩ = false)) (first | with_reducible exact hsB.drew.held | with_reducible exact (hsB.setA ak ai at_).drew.held | with_reducible exact ((hsB.setA ak ai at_).setB bk bi bt_).drew.held | go_keep) (fail)) | fail "held"
      go_wp2_with fail
      refine bodyPost_ret (SE.end ((hsB.setA ak ai at_).setB bk bi bt_).drew rfl rfl rfl) rfl ⟨rfl, ((hsB.setA ak ai at_).setB bk bi bt_).drew.below⟩
  · rw [if_neg hbad] at h
    obtain ⟨⟨c, ok⟩, hcmp, h1⟩ := Option.bind_eq_some_iff.mp h
    clear h
    simp only [Option.some.injEq, Prod.mk.injEq] at h1
    obtain ⟨rfl, rfl, rfl, rfl, rfl, rfl, hr7⟩ := h1
    have hae : ae = 0 := Decidable.not_not.mp (fun h => hbad (.inl h))
    have hbe : be = 0 := Decidable.not_not.mp (fun h => hbad (.inr h))
    clear hbad
    subst hae
    subst hbe
    have hkw := check_kind (read_good HRA.out)
    have HC := Lib.hid hcmp
    have HR7 := Lib.hid hr7
    clear hcmp hr7
    go_enter Try.func45, Try.ntmps45
    go_wp2_with fail
    rw [← HW0.out]
    refine (ranges_Read.calls a0_0 a0_1 a1_2 _ _ _ _ W0 HRA.out).mono ?_
    rintro e w1 ⟨rfl, hB1⟩
    have hS1 := hS.next hB1
    have hsA := hS1.setA ak ai at_
    obtain ⟨⟨⟨c00, c01⟩, ⟨c20, c21, c22⟩, ⟨c30, c31, c32⟩, ⟨f20, f21, f22⟩, ⟨f30, f31, f32⟩⟩, c12, c13⟩ := hS1.cells
    go_wp2_with fail
    generalize hWA : (((w1.setCell ⟨w.heap.size + 1 + 1, 0, none⟩ (.int .i64 ak)).setCell ⟨w.heap.size + 1 + 1, 1, none⟩ (.int .i64 ai)).setCell ⟨w.heap.size + 1 + 1, 2, none⟩ (.string at_)) = WA at *
    clear hWA c00 c01 c20 c21 c22 c30 c31 c32 f20 f21 f22 f30 f31 f32 c12 c13 hS1 hB1
    refine (ranges_Read.calls a0_0 a0_1 a1_3 _ _ _ _ WA HRB.out).mono ?_
    rintro e w2 ⟨rfl, hB2⟩
    have hS2 := hsA.next hB2
    have hsB := hS2.setB bk bi bt_
    obtain ⟨⟨⟨c00, c01⟩, ⟨c20, c21, c22⟩, ⟨c30, c31, c32⟩, ⟨f20, f21, f22⟩, ⟨f30, f31, f32⟩⟩, c12, c13⟩ := hS2.cells
    go_wp2_with fail
    generalize hWB : (((w2.setCell ⟨w.heap.size + 1 + 1 + 1, 0, none⟩ (.int .i64 bk)).setCell ⟨w.heap.size + 1 + 1 + 1, 1, none⟩ (.int .i64 bi)).setCell ⟨w.heap.size + 1 + 1 + 1, 2, none⟩ (.string bt_)) = WB at *
    clear hWB c00 c01 c20 c21 c22 c30 c31 c32 f20 f21 f22 f30 f31 f32 c12 c13 hS2 hB2 hsA
    refine (datum_Compare.calls _ _ _ _ _ _ c ok WB HC.out).mono ?_
    rintro e w3 ⟨rfl, hB3⟩
    have hS3 := hsB.next hB3
    obtain ⟨⟨⟨c00, c01⟩, ⟨c20, c21, c22⟩, ⟨c30, c31, c32⟩, ⟨f20, f21, f22⟩, ⟨f30, f31, f32⟩⟩, c12, c13⟩ := hS3.cells
    go_wp2_with fail
    have HB3 := Lib.hid hB3
    cases ok with
    | false =>
      go_region
      go_wp2_with fail
      have hr := HR7.out
      simp only [Bool.false_and] at hr
      subst hr
      refine bodyPost_ret (SE.end ((hS3.setA ak ai at_).setB bk bi bt_).drew rfl rfl rfl) rfl ⟨rfl, ((hS3.setA ak ai at_).setB bk bi bt_).drew.below⟩
    | true =>
      by_cases hc : decide (c ≤ 0) = true
      · have hcc : c ≤ 0 := of_decide_eq_true hc
        have hr := HR7.out
        rw [hc] at hr
        by_cases hz : (zI (signOf a0_0) true ai == ai) = true
        · rw [← beq_dec (zI (signOf a0_0) true ai) ai, hz] at hr
          have HR := Lib.hid hr
          clear hr
          have g30 := hS3.drew.heldT
          clear hcc HR7 HB3 c00 c01 c20 c21 c22 c30 c31 c32 f20 f21 f22 f30 f31 f32 c12 c13 hsB hS HC HRA HRB HW0
          refine wp_region_held_drew (S := (fun W => W.cell? ⟨w.heap.size, 0, none⟩ = some (.int .i64 a0_0) ∧ (W.cell? ⟨w.heap.size + 1 + 1, 0, none⟩ = some (.int .i64 ak) ∧ W.cell? ⟨w.heap.size + 1 + 1, 1, none⟩ = some (.int .i64 ai) ∧ W.cell? ⟨w.heap.size + 1 + 1, 2, none⟩ = some (.string at_)) ∧ (W.cell? ⟨w.heap.size + 1 + 1 + 1, 0, none⟩ = some (.int .i64 bk) ∧ W.cell? ⟨w.heap.size + 1 + 1 + 1, 1, none⟩ = some (.int .i64 bi) ∧ W.cell? ⟨w.heap.size + 1 + 1 + 1, 2, none⟩ = some (.string bt_)) ∧ (W.frozen? ⟨w.heap.size + 1 + 1, 0, none⟩ = false ∧ W.frozen? ⟨w.heap.size + 1 + 1, 1, none⟩ = false ∧ W.frozen? ⟨w.heap.size + 1 + 1, 2, none⟩ = false) ∧ (W.frozen? ⟨w.heap.size + 1 + 1 + 1, 0, none⟩ = false ∧ W.frozen? ⟨w.heap.size + 1 + 1 + 1, 1, none⟩ = false ∧ W.frozen? ⟨w.heap.size + 1 + 1 + 1, 2, none⟩ = false))) (by kernel_rfl) g30 (fun hHeld => ?_)
          refine tkY 0 (some 39) rfl rfl (by kernel_rfl) (by kernel_rfl) (by kernel_rfl) (fun _ _ _ h => h) (by rfl) (v := ?tkv0) ?tky0 (by assumption) rfl ?tkr0
          case tky0 =>
            intro W' hSw
            try dsimp only at hSw
            go_simp
            first | done | with_reducible rfl
          simp only [Act.put, List.setIfInBounds_toArray, List.set_cons_zero, List.set_cons_succ]
          refine tkY 1 (some 40) rfl rfl (by kernel_rfl) (by kernel_rfl) (by kernel_rfl) (fun _ _ _ h => h) (by rfl) (v := ?tkv1) ?tky1 (by assumption) rfl ?tkr1
          case tky1 =>
            intro W' hSw
            try dsimp only at hSw
            go_simp
            first | done | with_reducible rfl
          simp only [Act.put, List.setIfInBounds_toArray, List.set_cons_zero, List.set_cons_succ]
          refine tkY 2 (some 41) rfl rfl (by kernel_rfl) (by kernel_rfl) (by kernel_rfl) (fun _ _ _ h => h) (by rfl) (v := ?tkv2) ?tky2 (by assumption) rfl ?tkr2
          case tky2 =>
            intro W' hSw
            try dsimp only at hSw
            go_simp
            first | done | with_reducible rfl
          simp only [Act.put, List.setIfInBounds_toArray, List.set_cons_zero, List.set_cons_succ]
          refine tkY 3 (some 42) rfl rfl (by kernel_rfl) (by kernel_rfl) (by kernel_rfl) (fun _ _ _ h => h) (by rfl) (v := ?tkv3) ?tky3 (by assumption) rfl ?tkr3
          case tky3 =>
            intro W' hSw
            try dsimp only at hSw
            go_simp
            first | done | with_reducible rfl
          simp only [Act.put, List.setIfInBounds_toArray, List.set_cons_zero, List.set_cons_succ]
          refine tkY 4 (some 43) rfl rfl (by kernel_rfl) (by kernel_rfl) (by kernel_rfl) (fun _ _ _ h => h) (by rfl) (v := ?tkv4) ?tky4 (by assumption) rfl ?tkr4
          case tky4 =>
            intro W' hSw
            try dsimp only at hSw
            go_simp
            first | done | with_reducible rfl
          simp only [Act.put, List.setIfInBounds_toArray, List.set_cons_zero, List.set_cons_succ]
          refine tkY 5 (some 44) rfl rfl (by kernel_rfl) (by kernel_rfl) (by kernel_rfl) (fun _ _ _ h => h) (by rfl) (v := ?tkv5) ?tky5 (by assumption) rfl ?tkr5
          case tky5 =>
            intro W' hSw
            try dsimp only at hSw
            go_simp
            first | done | with_reducible rfl
          simp only [Act.put, List.setIfInBounds_toArray, List.set_cons_zero, List.set_cons_succ]
          refine tkY 6 (some 45) rfl rfl (by kernel_rfl) (by kernel_rfl) (by kernel_rfl) (fun _ _ _ h => h) (by rfl) (v := ?tkv6) ?tky6 (by assumption) rfl ?tkr6
          case tky6 =>
            intro W' hSw
            try dsimp only at hSw
            go_simp
            first | done | with_reducible rfl
          simp only [Act.put, List.setIfInBounds_toArray, List.set_cons_zero, List.set_cons_succ]
          refine tkY 7 (some 46) rfl rfl (by kernel_rfl) (by kernel_rfl) (by kernel_rfl) (fun _ _ _ h => h) (by rfl) (v := ?tkv7) ?tky7 (by assumption) rfl ?tkr7
          case tky7 =>
            intro W' hSw
            try dsimp only at hSw
            go_simp
            first | done | with_reducible rfl
          simp only [Act.put, List.setIfInBounds_toArray, List.set_cons_zero, List.set_cons_succ]
          refine tkY 8 (some 47) rfl rfl (by kernel_rfl) (by kernel_rfl) (by kernel_rfl) (fun _ _ _ h => h) (by rfl) (v := ?tkv8) ?tky8 (by assumption) rfl ?tkr8
          case tky8 =>
            intro W' hSw
            try dsimp only at hSw
            go_simp
            first | done | with_reducible rfl
          simp only [Act.put, List.setIfInBounds_toArray, List.set_cons_zero, List.set_cons_succ]
          refine tkY 9 (some 48) rfl rfl (by kernel_rfl) (by kernel_rfl) (by kernel_rfl) (fun _ _ _ h => h) (by rfl) (v := ?tkv9) ?tky9 (by assumption) rfl ?tkr9
          case tky9 =>
            intro W' hSw
            try dsimp only at hSw
            go_simp
            first | done | with_reducible rfl
          simp only [Act.put, List.setIfInBounds_toArray, List.set_cons_zero, List.set_cons_succ]
          refine tkY 11 (some 50) rfl rfl (by kernel_rfl) (by kernel_rfl) (by kernel_rfl) (fun _ _ _ h => h) (by rfl) (v := ?tkv11) ?tky11 (by assumption) rfl ?tkr11
          case tky11 =>
            intro W' hSw
            try dsimp only at hSw
            go_simp
            first | done | with_reducible rfl
          simp only [Act.put, List.setIfInBounds_toArray, List.set_cons_zero, List.set_cons_succ]
          refine tkY 13 (some 52) rfl rfl (by kernel_rfl) (by kernel_rfl) (by kernel_rfl) (fun _ _ _ h => h) (by rfl) (v := ?tkv13) ?tky13 (by assumption) rfl ?tkr13
          case tky13 =>
            intro W' hSw
            try dsimp only at hSw
            go_simp
            first | done | with_reducible rfl
          simp only [Act.put, List.setIfInBounds_toArray, List.set_cons_zero, List.set_cons_succ]
          refine wpAnyH_ready (rs := [10]) (by kernel_rfl) (by simp) (AllReadyH.cons (at_drop rfl) (fun K hK => ?_) AllReadyH.nil)
          go_simp
          (go_at_call_of 37 (Value.bool true); refine (zeros_calls a0_0 true _ hkw).mono ?_; rintro e w4 ⟨p1, p3, rfl, hp1, hp3, hB4⟩; have hB4' := undrew hB4; have h4 := hS3.next hB4')
          refine hK.out _ _ h4.heldT (fun hHeld => ?_)
          clear hK K
          try simp only [Act.put, List.setIfInBounds_toArray, List.set_cons_zero, List.set_cons_succ]
          refine wpAnyH_ready (rs := [12]) (by kernel_rfl) (by simp) (AllReadyH.cons (at_drop rfl) (fun K hK => ?_) AllReadyH.nil)
          go_simp
          (go_at_call_of 58 (Value.agg #[Value.int IntKind.i64 ak, Value.int IntKind.i64 ai, Value.string at_]); refine (zeros1_calls (signOf a0_0) true _ _ _ p1 p3 w4 hp1 hp3).mono ?_; rintro e w5 ⟨rfl, hB5⟩; have h5 := h4.next hB5)
          refine hK.out _ _ h5.heldT (fun hHeld => ?_)
          clear hK K
          try simp only [Act.put, List.setIfInBounds_toArray, List.set_cons_zero, List.set_cons_succ]
          refine tkY 14 (some 53) rfl rfl (by kernel_rfl) (by kernel_rfl) (by kernel_rfl) (fun _ _ _ h => h) (by rfl) (v := ?tkv14) ?tky14 (by assumption) rfl ?tkr14
          case tky14 =>
            intro W' hSw
            try dsimp only at hSw
            go_simp
            first | done | with_reducible rfl
          simp only [Act.put, List.setIfInBounds_toArray, List.set_cons_zero, List.set_cons_succ]
          refine tkY 15 (some 54) rfl rfl (by kernel_rfl) (by kernel_rfl) (by kernel_rfl) (fun _ _ _ h => h) (by rfl) (v := ?tkv15) ?tky15 (by assumption) rfl ?tkr15
          case tky15 =>
            intro W' hSw
            try dsimp only at hSw
            go_simp
            first | done | with_reducible rfl
          simp only [Act.put, List.setIfInBounds_toArray, List.set_cons_zero, List.set_cons_succ]
          refine tkY 16 (some 55) rfl rfl (by kernel_rfl) (by kernel_rfl) (by kernel_rfl) (fun _ _ _ h => h) (by rfl) (v := ?tkv16) ?tky16 (by assumption) rfl ?tkr16
          case tky16 =>
            intro W' hSw
            try dsimp only at hSw
            go_simp
            first | done | with_reducible rfl
          simp only [Act.put, List.setIfInBounds_toArray, List.set_cons_zero, List.set_cons_succ]
          refine tkY 17 (some 56) rfl rfl (by kernel_rfl) (by kernel_rfl) (by kernel_rfl) (fun _ _ _ h => h) (by rfl) (v := ?tkv17) ?tky17 (by assumption) rfl ?tkr17
          case tky17 =>
            intro W' hSw
            try dsimp only at hSw
            go_simp
            first | done | with_reducible rfl
          simp only [Act.put, List.setIfInBounds_toArray, List.set_cons_zero, List.set_cons_succ]
          refine tkY 18 (some 57) rfl rfl (by kernel_rfl) (by kernel_rfl) (by kernel_rfl) (fun _ _ _ h => h) (by rfl) (v := ?tkv18) ?tky18 (by assumption) rfl ?tkr18
          case tky18 =>
            intro W' hSw
            try dsimp only at hSw
            go_simp
            first | done | with_reducible rfl
          simp only [Act.put, List.setIfInBounds_toArray, List.set_cons_zero, List.set_cons_succ]
          refine tkY 20 (some 59) rfl rfl (by kernel_rfl) (by kernel_rfl) (by kernel_rfl) (fun _ _ _ h => h) (by rfl) (v := ?tkv20) ?tky20 (by assumption) rfl ?tkr20
          case tky20 =>
            intro W' hSw
            try dsimp only at hSw
            go_simp
            first | done | with_reducible rfl
          simp only [Act.put, List.setIfInBounds_toArray, List.set_cons_zero, List.set_cons_succ]
          refine tkY 22 (some 61) rfl rfl (by kernel_rfl) (by kernel_rfl) (by kernel_rfl) (fun _ _ _ h => h) (by rfl) (v := ?tkv22) ?tky22 (by assumption) rfl ?tkr22
          case tky22 =>
            intro W' hSw
            try dsimp only at hSw
            go_simp
            first | done | with_reducible rfl
          simp only [Act.put, List.setIfInBounds_toArray, List.set_cons_zero, List.set_cons_succ]
          refine wpAnyH_ready (rs := [19]) (by kernel_rfl) (by simp) (AllReadyH.cons (at_drop rfl) (fun K hK => ?_) AllReadyH.nil)
          go_simp
          (go_at_call_of 37 (Value.bool false); refine (zeros_calls a0_0 false _ hkw).mono ?_; rintro e w6 ⟨p5, p7, rfl, hp5, hp7, hB6⟩; have h6 := h5.next hB6)
          refine hK.out _ _ h6.heldT (fun hHeld => ?_)
          clear hK K
          try simp only [Act.put, List.setIfInBounds_toArray, List.set_cons_zero, List.set_cons_succ]
          refine wpAnyH_ready (rs := [21]) (by kernel_rfl) (by simp) (AllReadyH.cons (at_drop rfl) (fun K hK => ?_) AllReadyH.nil)
          go_simp
          (go_at_call_of 58 (Value.agg #[Value.int IntKind.i64 bk, Value.int IntKind.i64 bi, Value.string bt_]); refine (zeros1_calls (signOf a0_0) false _ _ _ p5 p7 w6 hp5 hp7).mono ?_; rintro e w7 ⟨rfl, hB7⟩; have h7 := h6.next hB7)
          refine hK.out _ _ h7.heldT (fun hHeld => ?_)
          clear hK K
          try simp only [Act.put, List.setIfInBounds_toArray, List.set_cons_zero, List.set_cons_succ]
          refine tkY 23 (some 62) rfl rfl (by kernel_rfl) (by kernel_rfl) (by kernel_rfl) (fun _ _ _ h => h) (by rfl) (v := ?tkv23) ?tky23 (by assumption) rfl ?tkr23
          case tky23 =>
            intro W' hSw
            try dsimp only at hSw
            go_simp
            first | done | with_reducible rfl
          simp only [Act.put, List.setIfInBounds_toArray, List.set_cons_zero, List.set_cons_succ]
          refine tkY 24 (some 63) rfl rfl (by kernel_rfl) (by kernel_rfl) (by kernel_rfl) (fun _ _ _ h => h) (by rfl) (v := ?tkv24) ?tky24 (by assumption) rfl ?tkr24
          case tky24 =>
            intro W' hSw
            try dsimp only at hSw
            go_simp
            first | done | with_reducible rfl
          simp only [Act.put, List.setIfInBounds_toArray, List.set_cons_zero, List.set_cons_succ]
          refine wpAnyH_ready (rs := [25]) (by kernel_rfl) (by simp) (AllReadyH.cons (at_drop rfl) (fun K hK => ?_) AllReadyH.nil)
          go_simp
          refine hK.out _ _ (h7.setA ak ai at_).heldT (fun hHeld => ?_)
          clear hK K
          try simp only [Act.put, List.setIfInBounds_toArray, List.set_cons_zero, List.set_cons_succ]
          refine wpAnyH_ready (rs := [26]) (by kernel_rfl) (by simp) (AllReadyH.cons (at_drop rfl) (fun K hK => ?_) AllReadyH.nil)
          go_simp
          refine hK.out _ _ ((h7.setA ak ai at_).setB bk bi bt_).heldT (fun hHeld => ?_)
          clear hK K
          try simp only [Act.put, List.setIfInBounds_toArray, List.set_cons_zero, List.set_cons_succ]
          refine wpAnyH_ready (rs := [27]) (by kernel_rfl) (by simp) (AllReadyH.cons (at_drop rfl) (fun K hK => ?_) AllReadyH.nil)
          go_simp
          refine hK.out _ _ ((h7.setA ak ai at_).setB bk bi bt_).heldT (fun hHeld => ?_)
          clear hK K
          try simp only [Act.put, List.setIfInBounds_toArray, List.set_cons_zero, List.set_cons_succ]
          refine wpAnyH_done (by kernel_rfl) ?_ _
          go_wp2_with fail
          have hr := HR.out
          simp only [Bool.and_self, Bool.true_and] at hr
          rw [← beq_dec] at hr
          subst hr
          refine bodyPost_ret (SE.end ((h7.setA ak ai at_).setB bk bi bt_) rfl rfl rfl) rfl ⟨rfl, ((h7.setA ak ai at_).setB bk bi bt_).below⟩
        · have hz' : (zI (signOf a0_0) true ai == ai) = false := by simpa using hz
          rw [← beq_dec (zI (signOf a0_0) true ai) ai, hz'] at hr
          have HR := Lib.hid hr
          clear hr hz
          have g30 := hS3.drew.heldT
          clear hcc HR7 HB3 c00 c01 c20 c21 c22 c30 c31 c32 f20 f21 f22 f30 f31 f32 c12 c13 hsB hS HC HRA HRB HW0
          refine wp_region_held_drew (S := (fun W => W.cell? ⟨w.heap.size, 0, none⟩ = some (.int .i64 a0_0) ∧ (W.cell? ⟨w.heap.size + 1 + 1, 0, none⟩ = some (.int .i64 ak) ∧ W.cell? ⟨w.heap.size + 1 + 1, 1, none⟩ = some (.int .i64 ai) ∧ W.cell? ⟨w.heap.size + 1 + 1, 2, none⟩ = some (.string at_)) ∧ (W.cell? ⟨w.heap.size + 1 + 1 + 1, 0, none⟩ = some (.int .i64 bk) ∧ W.cell? ⟨w.heap.size + 1 + 1 + 1, 1, none⟩ = some (.int .i64 bi) ∧ W.cell? ⟨w.heap.size + 1 + 1 + 1, 2, none⟩ = some (.string bt_)) ∧ (W.frozen? ⟨w.heap.size + 1 + 1, 0, none⟩ = false ∧ W.frozen? ⟨w.heap.size + 1 + 1, 1, none⟩ = false ∧ W.frozen? ⟨w.heap.size + 1 + 1, 2, none⟩ = false) ∧ (W.frozen? ⟨w.heap.size + 1 + 1 + 1, 0, none⟩ = false ∧ W.frozen? ⟨w.heap.size + 1 + 1 + 1, 1, none⟩ = false ∧ W.frozen? ⟨w.heap.size + 1 + 1 + 1, 2, none⟩ = false))) (by kernel_rfl) g30 (fun hHeld => ?_)
          refine tkY 0 (some 39) rfl rfl (by kernel_rfl) (by kernel_rfl) (by kernel_rfl) (fun _ _ _ h => h) (by rfl) (v := ?tkvb0) ?tkyb0 (by assumption) rfl ?tkrb0
          case tkyb0 =>
            intro W' hSw
            try dsimp only at hSw
            go_simp
            first | done | with_reducible rfl
          simp only [Act.put, List.setIfInBounds_toArray, List.set_cons_zero, List.set_cons_succ]
          refine tkY 1 (some 40) rfl rfl (by kernel_rfl) (by kernel_rfl) (by kernel_rfl) (fun _ _ _ h => h) (by rfl) (v := ?tkvb1) ?tkyb1 (by assumption) rfl ?tkrb1
          case tkyb1 =>
            intro W' hSw
            try dsimp only at hSw
            go_simp
            first | done | with_reducible rfl
          simp only [Act.put, List.setIfInBounds_toArray, List.set_cons_zero, List.set_cons_succ]
          refine tkY 2 (some 41) rfl rfl (by kernel_rfl) (by kernel_rfl) (by kernel_rfl) (fun _ _ _ h => h) (by rfl) (v := ?tkvb2) ?tkyb2 (by assumption) rfl ?tkrb2
          case tkyb2 =>
            intro W' hSw
            try dsimp only at hSw
            go_simp
            first | done | with_reducible rfl
          simp only [Act.put, List.setIfInBounds_toArray, List.set_cons_zero, List.set_cons_succ]
          refine tkY 3 (some 42) rfl rfl (by kernel_rfl) (by kernel_rfl) (by kernel_rfl) (fun _ _ _ h => h) (by rfl) (v := ?tkvb3) ?tkyb3 (by assumption) rfl ?tkrb3
          case tkyb3 =>
            intro W' hSw
            try dsimp only at hSw
            go_simp
            first | done | with_reducible rfl
          simp only [Act.put, List.setIfInBounds_toArray, List.set_cons_zero, List.set_cons_succ]
          refine tkY 4 (some 43) rfl rfl (by kernel_rfl) (by kernel_rfl) (by kernel_rfl) (fun _ _ _ h => h) (by rfl) (v := ?tkvb4) ?tkyb4 (by assumption) rfl ?tkrb4
          case tkyb4 =>
            intro W' hSw
            try dsimp only at hSw
            go_simp
            first | done | with_reducible rfl
          simp only [Act.put, List.setIfInBounds_toArray, List.set_cons_zero, List.set_cons_succ]
          refine tkY 5 (some 44) rfl rfl (by kernel_rfl) (by kernel_rfl) (by kernel_rfl) (fun _ _ _ h => h) (by rfl) (v := ?tkvb5) ?tkyb5 (by assumption) rfl ?tkrb5
          case tkyb5 =>
            intro W' hSw
            try dsimp only at hSw
            go_simp
            first | done | with_reducible rfl
          simp only [Act.put, List.setIfInBounds_toArray, List.set_cons_zero, List.set_cons_succ]
          refine tkY 6 (some 45) rfl rfl (by kernel_rfl) (by kernel_rfl) (by kernel_rfl) (fun _ _ _ h => h) (by rfl) (v := ?tkvb6) ?tkyb6 (by assumption) rfl ?tkrb6
          case tkyb6 =>
            intro W' hSw
            try dsimp only at hSw
            go_simp
            first | done | with_reducible rfl
          simp only [Act.put, List.setIfInBounds_toArray, List.set_cons_zero, List.set_cons_succ]
          refine tkY 7 (some 46) rfl rfl (by kernel_rfl) (by kernel_rfl) (by kernel_rfl) (fun _ _ _ h => h) (by rfl) (v := ?tkvb7) ?tkyb7 (by assumption) rfl ?tkrb7
          case tkyb7 =>
            intro W' hSw
            try dsimp only at hSw
            go_simp
            first | done | with_reducible rfl
          simp only [Act.put, List.setIfInBounds_toArray, List.set_cons_zero, List.set_cons_succ]
          refine tkY 8 (some 47) rfl rfl (by kernel_rfl) (by kernel_rfl) (by kernel_rfl) (fun _ _ _ h => h) (by rfl) (v := ?tkvb8) ?tkyb8 (by assumption) rfl ?tkrb8
          case tkyb8 =>
            intro W' hSw
            try dsimp only at hSw
            go_simp
            first | done | with_reducible rfl
          simp only [Act.put, List.setIfInBounds_toArray, List.set_cons_zero, List.set_cons_succ]
          refine tkY 9 (some 48) rfl rfl (by kernel_rfl) (by kernel_rfl) (by kernel_rfl) (fun _ _ _ h => h) (by rfl) (v := ?tkvb9) ?tkyb9 (by assumption) rfl ?tkrb9
          case tkyb9 =>
            intro W' hSw
            try dsimp only at hSw
            go_simp
            first | done | with_reducible rfl
          simp only [Act.put, List.setIfInBounds_toArray, List.set_cons_zero, List.set_cons_succ]
          refine tkY 11 (some 50) rfl rfl (by kernel_rfl) (by kernel_rfl) (by kernel_rfl) (fun _ _ _ h => h) (by rfl) (v := ?tkvb11) ?tkyb11 (by assumption) rfl ?tkrb11
          case tkyb11 =>
            intro W' hSw
            try dsimp only at hSw
            go_simp
            first | done | with_reducible rfl
          simp only [Act.put, List.setIfInBounds_toArray, List.set_cons_zero, List.set_cons_succ]
          refine tkY 13 (some 52) rfl rfl (by kernel_rfl) (by kernel_rfl) (by kernel_rfl) (fun _ _ _ h => h) (by rfl) (v := ?tkvb13) ?tkyb13 (by assumption) rfl ?tkrb13
          case tkyb13 =>
            intro W' hSw
            try dsimp only at hSw
            go_simp
            first | done | with_reducible rfl
          simp only [Act.put, List.setIfInBounds_toArray, List.set_cons_zero, List.set_cons_succ]
          refine wpAnyH_ready (rs := [10]) (by kernel_rfl) (by simp) (AllReadyH.cons (at_drop rfl) (fun K hK => ?_) AllReadyH.nil)
          go_simp
          (go_at_call_of 37 (Value.bool true); refine (zeros_calls a0_0 true _ hkw).mono ?_; rintro e w4 ⟨p1, p3, rfl, hp1, hp3, hB4⟩; have hB4' := undrew hB4; have h4 := hS3.next hB4')
          refine hK.out _ _ h4.heldT (fun hHeld => ?_)
          clear hK K
          try simp only [Act.put, List.setIfInBounds_toArray, List.set_cons_zero, List.set_cons_succ]
          refine wpAnyH_ready (rs := [12]) (by kernel_rfl) (by simp) (AllReadyH.cons (at_drop rfl) (fun K hK => ?_) AllReadyH.nil)
          go_simp
          (go_at_call_of 58 (Value.agg #[Value.int IntKind.i64 ak, Value.int IntKind.i64 ai, Value.string at_]); refine (zeros1_calls (signOf a0_0) true _ _ _ p1 p3 w4 hp1 hp3).mono ?_; rintro e w5 ⟨rfl, hB5⟩; have h5 := h4.next hB5)
          refine hK.out _ _ h5.heldT (fun hHeld => ?_)
          clear hK K
          try simp only [Act.put, List.setIfInBounds_toArray, List.set_cons_zero, List.set_cons_succ]
          refine tkY 14 (some 53) rfl rfl (by kernel_rfl) (by kernel_rfl) (by kernel_rfl) (fun _ _ _ h => h) (by rfl) (v := ?tkvb14) ?tkyb14 (by assumption) rfl ?tkrb14
          case tkyb14 =>
            intro W' hSw
            try dsimp only at hSw
            go_simp
            first | done | with_reducible rfl
          simp only [Act.put, List.setIfInBounds_toArray, List.set_cons_zero, List.set_cons_succ]
          refine tkY 15 (some 54) rfl rfl (by kernel_rfl) (by kernel_rfl) (by kernel_rfl) (fun _ _ _ h => h) (by rfl) (v := ?tkvb15) ?tkyb15 (by assumption) rfl ?tkrb15
          case tkyb15 =>
            intro W' hSw
            try dsimp only at hSw
            go_simp
            first | done | with_reducible rfl
          simp only [Act.put, List.setIfInBounds_toArray, List.set_cons_zero, List.set_cons_succ]
          refine tkY 16 (some 55) rfl rfl (by kernel_rfl) (by kernel_rfl) (by kernel_rfl) (fun _ _ _ h => h) (by rfl) (v := ?tkvb16) ?tkyb16 (by assumption) rfl ?tkrb16
          case tkyb16 =>
            intro W' hSw
            try dsimp only at hSw
            go_simp
            first | done | with_reducible rfl
          simp only [Act.put, List.setIfInBounds_toArray, List.set_cons_zero, List.set_cons_succ]
          refine tkN 17 (some 56) rfl rfl (by kernel_rfl) (by kernel_rfl) (by kernel_rfl) (fun _ _ _ h => h) (by rfl) (by assumption) rfl ?_
          simp only [Act.put, List.setIfInBounds_toArray, List.set_cons_zero, List.set_cons_succ]
          refine tkN 18 (some 57) rfl rfl (by kernel_rfl) (by kernel_rfl) (by kernel_rfl) (fun _ _ _ h => h) (by rfl) (by assumption) rfl ?_
          simp only [Act.put, List.setIfInBounds_toArray, List.set_cons_zero, List.set_cons_succ]
          refine tkN 19 (some 58) rfl rfl (by kernel_rfl) (by kernel_rfl) (by kernel_rfl) (fun _ _ _ h => h) (by rfl) (by assumption) rfl ?_
          simp only [Act.put, List.setIfInBounds_toArray, List.set_cons_zero, List.set_cons_succ]
          refine tkN 20 (some 59) rfl rfl (by kernel_rfl) (by kernel_rfl) (by kernel_rfl) (fun _ _ _ h => h) (by rfl) (by assumption) rfl ?_
          simp only [Act.put, List.setIfInBounds_toArray, List.set_cons_zero, List.set_cons_succ]
          refine tkN 21 (some 60) rfl rfl (by kernel_rfl) (by kernel_rfl) (by kernel_rfl) (fun _ _ _ h => h) (by rfl) (by assumption) rfl ?_
          simp only [Act.put, List.setIfInBounds_toArray, List.set_cons_zero, List.set_cons_succ]
          refine tkN 22 (some 61) rfl rfl (by kernel_rfl) (by kernel_rfl) (by kernel_rfl) (fun _ _ _ h => h) (by rfl) (by assumption) rfl ?_
          simp only [Act.put, List.setIfInBounds_toArray, List.set_cons_zero, List.set_cons_succ]
          refine tkN 23 (some 62) rfl rfl (by kernel_rfl) (by kernel_rfl) (by kernel_rfl) (fun _ _ _ h => h) (by rfl) (by assumption) rfl ?_
          simp only [Act.put, List.setIfInBounds_toArray, List.set_cons_zero, List.set_cons_succ]
          refine tkY 24 (some 63) rfl rfl (by kernel_rfl) (by kernel_rfl) (by kernel_rfl) (fun _ _ _ h => h) (by rfl) (v := ?tkvb24) ?tkyb24 (by assumption) rfl ?tkrb24
          case tkyb24 =>
            intro W' hSw
            try dsimp only at hSw
            go_simp
            first | done | with_reducible rfl
          simp only [Act.put, List.setIfInBounds_toArray, List.set_cons_zero, List.set_cons_succ]
          refine wpAnyH_ready (rs := [25]) (by kernel_rfl) (by simp) (AllReadyH.cons (at_drop rfl) (fun K hK => ?_) AllReadyH.nil)
          go_simp
          refine hK.out _ _ (h5.setA ak ai at_).heldT (fun hHeld => ?_)
          clear hK K
          try simp only [Act.put, List.setIfInBounds_toArray, List.set_cons_zero, List.set_cons_succ]
          refine wpAnyH_ready (rs := [26]) (by kernel_rfl) (by simp) (AllReadyH.cons (at_drop rfl) (fun K hK => ?_) AllReadyH.nil)
          go_simp
          refine hK.out _ _ ((h5.setA ak ai at_).setB bk bi bt_).heldT (fun hHeld => ?_)
          clear hK K
          try simp only [Act.put, List.setIfInBounds_toArray, List.set_cons_zero, List.set_cons_succ]
          refine wpAnyH_ready (rs := [27]) (by kernel_rfl) (by simp) (AllReadyH.cons (at_drop rfl) (fun K hK => ?_) AllReadyH.nil)
          go_simp
          refine hK.out _ _ ((h5.setA ak ai at_).setB bk bi bt_).heldT (fun hHeld => ?_)
          clear hK K
          try simp only [Act.put, List.setIfInBounds_toArray, List.set_cons_zero, List.set_cons_succ]
          refine wpAnyH_done (by kernel_rfl) ?_ _
          go_wp2_with fail
          have hr := HR.out
          simp only [Bool.and_false, Bool.false_and] at hr
          subst hr
          refine bodyPost_ret (SE.end ((h5.setA ak ai at_).setB bk bi bt_) rfl rfl rfl) rfl ⟨rfl, ((h5.setA ak ai at_).setB bk bi bt_).below⟩
      · have hc' : decide (c ≤ 0) = false := by simpa using hc
        have hr := HR7.out
        rw [hc'] at hr
        simp only [Bool.and_false, Bool.false_and] at hr
        subst hr
        clear hc
        go_region
        go_wp2_with fail
        refine bodyPost_ret (SE.end ((hS3.setA ak ai at_).setB bk bi bt_).drew rfl rfl rfl) rfl ⟨rfl, ((hS3.setA ak ai at_).setB bk bi bt_).drew.below⟩


end Go.Proofs.Ytncehlbhjoejhaa.H
end
section
-- Laid by this session's hprint.py, out of the kit's print.py and texts of the session. Not trusted: Lean checks it.
namespace Go.Proofs.Ytncehlbhjoejhaa.H
open Go.RowKit Go.Proofs.YtncehlbhjoejhaaW.PrintWords Go.Proofs.YtncehlbhjoejhaaW.PrintLast Go.Proofs.YtncehlbhjoejhaaW.PrintMore
attribute [local go_sem] max2_int min2_int max_two min_two max_three min_three max_four min_four   -- for this text's walks alone
set_option linter.unusedVariables false
set_option linter.unusedSimpArgs false

attribute [local go_sem high] eqA31
/-! ### ranges_Check: function 16 -/
def ranges_Check.f (a0_0 : Int) (a0_1 : Int) (a1_0 : Int) (a1_1 : Bool) (a1_2 : ByteArray) (a1_3 : ByteArray) : Option (Int) := (datum_Check.f a0_0 a0_1).bind fun t120 => (if t120 = 0 then (if a1_1 = true then ((ranges_ends.f a0_0 a0_1 a1_0 a1_1 a1_2 a1_3).bind fun bt121 => (if bt121.2.2.2.2.2.2 = true then (if a1_0 < 0 then (some 320) else (if a1_0 > 65536 then (some 320) else (some 0))) else (some 320))) else (if ((!a1_1 && (a1_2.toList == ([] : List UInt8) && (a1_3.toList == ([] : List UInt8)))) = true) then (if a1_0 < 0 then (some 320) else (if a1_0 > 65536 then (some 320) else (some 0))) else (some 320))) else (some 2))
set_option maxHeartbeats 8000000 in
set_option maxRecDepth 100000 in
theorem ranges_Check.calls (a0_0 : Int) (a0_1 : Int) (a1_0 : Int) (a1_1 : Bool) (a1_2 : ByteArray) (a1_3 : ByteArray) (r : Int) (w : World) (h : ranges_Check.f a0_0 a0_1 a1_0 a1_1 a1_2 a1_3 = some r) :
    Calls Try.prog 16 #[.agg #[.int .i64 a0_0, .int .i64 a0_1], .agg #[.int .i64 a1_0, .bool a1_1, .string a1_2, .string a1_3]] w fun e w' => e = .returned (.int .i64 r) ∧ Below w.heap.size w w' := by
  have hu24 := Try.underlying24
  have hu31 := Try.underlying31
  have HB := Aside0.mk (Below.refl w.heap.size w)
  have H : ((datum_Check.f a0_0 a0_1).bind fun t120 => (if t120 = 0 then (if a1_1 = true then ((ranges_ends.f a0_0 a0_1 a1_0 a1_1 a1_2 a1_3).bind fun bt121 => (if bt121.2.2.2.2.2.2 = true then (if a1_0 < 0 then (some 320) else (if a1_0 > 65536 then (some 320) else (some 0))) else (some 320))) else (if ((!a1_1 && (a1_2.toList == ([] : List UInt8) && (a1_3.toList == ([] : List UInt8)))) = true) then (if a1_0 < 0 then (some 320) else (if a1_0 > 65536 then (some 320) else (some 0))) else (some 320))) else (some 2))) = some r := h
  clear h
  replace H := Option.bind_eq_some_iff.mp H
  obtain ⟨t120, A30, H⟩ := H
  replace H : (if t120 = 0 then (if a1_1 = true then ((ranges_ends.f a0_0 a0_1 a1_0 a1_1 a1_2 a1_3).bind fun bt121 => (if bt121.2.2.2.2.2.2 = true then (if a1_0 < 0 then (some 320) else (if a1_0 > 65536 then (some 320) else (some 0))) else (some 320))) else (if ((!a1_1 && (a1_2.toList == ([] : List UInt8) && (a1_3.toList == ([] : List UInt8)))) = true) then (if a1_0 < 0 then (some 320) else (if a1_0 > 65536 then (some 320) else (some 0))) else (some 320))) else (some 2)) = some r := H
  have A3 := Aside0.mk A30
  clear A30
  by_cases c4 : t120 = 0
  · rw [if_pos c4] at H
    have c4b0 : (t120 == 0) = true := beq_iff_eq.mpr c4
    have c4b1 : (t120 != 0) = false := bne_eq_false_iff_eq.mpr c4
    clear c4
    by_cases c5 : a1_1 = true
    · subst c5
      have H1 : ((ranges_ends.f a0_0 a0_1 a1_0 true a1_2 a1_3).bind fun bt121 => (if bt121.2.2.2.2.2.2 = true then (if a1_0 < 0 then (some 320) else (if a1_0 > 65536 then (some 320) else (some 0))) else (some 320))) = some r := by rw [if_pos rfl] at H; exact H
      clear H
      have H := H1
      clear H1
      replace H := Option.bind_eq_some_iff.mp H
      obtain ⟨⟨t121, t122, t123, t124, t125, t126, t127⟩, A60, H⟩ := H
      replace H : (if t127 = true then (if a1_0 < 0 then (some 320) else (if a1_0 > 65536 then (some 320) else (some 0))) else (some 320)) = some r := H
      have A6 := Aside0.mk A60
      clear A60
      by_cases c7 : t127 = true
      · subst c7
        have H1 : (if a1_0 < 0 then (some 320) else (if a1_0 > 65536 then (some 320) else (some 0))) = some r := by rw [if_pos rfl] at H; exact H
        clear H
        have H := H1
        clear H1
        by_cases c8 : a1_0 < 0
        · rw [if_pos c8] at H
          have c8b0 : decide (a1_0 < 0) = true := decide_eq_true c8
          clear c8
          obtain rfl := Option.some.inj H
          go_enter Try.func16, Try.ntmps16
          go_wp2_with (first | ((with_reducible refine gate_dst (N := 2) rfl ?_); refine box_event ?hg (N := 2) ?hd (cs := #[.int .i64 a0_0, .int .i64 a0_1]) (t := 24) ?hr ?_; (case hd => rfl); (case hg => rfl); (case hr => first | (go_simp; done) | (go_simp; rfl)); intro gb118 hg w9 hbox hb; have n0_ := Aside0.mk (below_step (by repeat (first | (with_reducible first | exact HB.out | apply below_alloc | apply pw_below_drewN | apply below_drew1) | exact HB.out)) hb); have n1_ := Aside0.mk (hbox); have n2_ := Aside0.mk ((by rw [hg]; exact (below_size (by repeat (first | (with_reducible first | exact HB.out | apply below_alloc | apply pw_below_drewN | apply below_drew1) | exact HB.out))) : w.heap.size ≤ gb118)); have n3_ := Aside0.mk ((by rw [hg]; exact (below_size (by repeat (first | (with_reducible first | exact HB.out | apply below_alloc | apply pw_below_drewN | apply below_drew1) | exact HB.out))) : w.heap.size ≤ gb118)); clear HB; have HB := n0_; have BK118 := n1_; have GW118 := n2_; have GE118 := n3_; clear n0_ n1_ n2_ n3_; clear hb hbox hg) | ((with_reducible refine gate_dst (N := 3) rfl ?_); refine box_event ?hg (N := 3) ?hd (cs := #[.int .i64 a1_0, .bool true, .string a1_2, .string a1_3]) (t := 31) ?hr ?_; (case hd => rfl); (case hg => rfl); (case hr => first | (go_simp; done) | (go_simp; rfl)); intro gb119 hg w10 hbox hb; have n0_ := Aside0.mk (blk_below (g := gb118) (o := .cells #[.int .i64 a0_0, .int .i64 a0_1] 24 (0, 0)) (by (with_reducible repeat (first | refine blk_drewN ?_ _ | refine blk_drew ?_ | refine blk_alloc ?_ _)); exact BK118.out) hb); have n1_ := Aside0.mk (below_step (by repeat (first | (with_reducible first | exact HB.out | apply below_alloc | apply pw_below_drewN | apply below_drew1 | refine below_set ?_ GE118.out) | exact HB.out)) hb); have n2_ := Aside0.mk (hbox); have n3_ := Aside0.mk ((by rw [hg]; exact (below_size (by repeat (first | (with_reducible first | exact HB.out | apply below_alloc | apply pw_below_drewN | apply below_drew1 | refine below_set ?_ GE118.out) | exact HB.out))) : w.heap.size ≤ gb119)); have n4_ := Aside0.mk ((by rw [hg]; exact (below_size (by repeat (first | (with_reducible first | exact HB.out | apply below_alloc | apply pw_below_drewN | apply below_drew1 | refine below_set ?_ GE118.out) | exact HB.out))) : w.heap.size ≤ gb119)); have n5_ := Aside0.mk ((by rw [hg]; exact Nat.ne_of_lt (blk_lt (g := gb118) (o := .cells #[.int .i64 a0_0, .int .i64 a0_1] 24 (0, 0)) (by (with_reducible repeat (first | refine blk_drewN ?_ _ | refine blk_drew ?_ | refine blk_alloc ?_ _)); exact BK118.out)) : gb118 ≠ gb119)); have n6_ := Aside0.mk ((by rw [hg]; exact Nat.ne_of_gt (blk_lt (g := gb118) (o := .cells #[.int .i64 a0_0, .int .i64 a0_1] 24 (0, 0)) (by (with_reducible repeat (first | refine blk_drewN ?_ _ | refine blk_drew ?_ | refine blk_alloc ?_ _)); exact BK118.out)) : gb119 ≠ gb118)); clear BK118; clear HB; have BK118 := n0_; have HB := n1_; have BK119 := n2_; have GW119 := n3_; have GE119 := n4_; have NB118_119 := n5_; have NB119_118 := n6_; clear n0_ n1_ n2_ n3_ n4_ n5_ n6_; clear hb hbox hg; have hnb11 := NB118_119.out; have hnc11 := NB119_118.out; have hcz12_0 : w10.cell? ⟨gb118, 0, none⟩ = some (.int .i64 a0_0) := (blk_cell BK118.out 0).trans rfl; have hcz12_1 : w10.cell? ⟨gb118, 1, none⟩ = some (.int .i64 a0_1) := (blk_cell BK118.out 1).trans rfl; have hfz12_0 := blk_frozen BK118.out 0; have hfz12_1 := blk_frozen BK118.out 1) | ((with_reducible refine gate_callee (f := 24) rfl ?_); refine goesL_ (some 7) rfl rfl Try.func24 (by kernel_rfl) rfl #[.agg #[.int .i64 a0_0, .int .i64 a0_1]] rfl (by (try simp only [List.map_toArray, List.map_cons, List.map_nil]); first | done | rfl | (simp only [List.length_drop, List.length_take]; rfl)) ?_; (with_reducible refine (datum_Check.calls a0_0 a0_1 t120 _ A3.out).mono ?_); rintro e w13 ⟨rfl, hb⟩; refine ⟨_, rfl, ?_⟩; have n0_ := Aside0.mk (blk_below (g := gb118) (o := .cells #[.int .i64 a0_0, .int .i64 a0_1] 24 (0, 0)) (by (with_reducible repeat (first | refine blk_drewN ?_ _ | refine blk_drew ?_ | refine blk_alloc ?_ _)); exact BK118.out) hb); have n1_ := Aside0.mk (blk_below (g := gb119) (o := .cells #[.int .i64 a1_0, .bool true, .string a1_2, .string a1_3] 31 (0, 0)) (by (with_reducible repeat (first | refine blk_drewN ?_ _ | refine blk_drew ?_ | refine blk_alloc ?_ _)); exact BK119.out) hb); have n2_ := Aside0.mk (below_step (by repeat (first | (with_reducible first | exact HB.out | apply below_alloc | apply pw_below_drewN | apply below_drew1 | refine below_set ?_ GE118.out | refine below_set ?_ GE119.out) | exact HB.out)) hb); clear BK118; clear BK119; clear HB; have BK118 := n0_; have BK119 := n1_; have HB := n2_; clear n0_ n1_ n2_; (try clear hb); (try clear hb2); (try clear hk); (try clear hi); have hcz14_0 : w13.cell? ⟨gb119, 0, none⟩ = some (.int .i64 a1_0) := (blk_cell BK119.out 0).trans rfl; have hcz14_1 : w13.cell? ⟨gb119, 1, none⟩ = some (.bool true) := (blk_cell BK119.out 1).trans rfl; have hcz14_2 : w13.cell? ⟨gb119, 2, none⟩ = some (.string a1_2) := (blk_cell BK119.out 2).trans rfl; have hcz14_3 : w13.cell? ⟨gb119, 3, none⟩ = some (.string a1_3) := (blk_cell BK119.out 3).trans rfl; have hfz14_0 := blk_frozen BK119.out 0; have hfz14_1 := blk_frozen BK119.out 1; have hfz14_2 := blk_frozen BK119.out 2; have hfz14_3 := blk_frozen BK119.out 3; have hcz15_0 : w13.cell? ⟨gb118, 0, none⟩ = some (.int .i64 a0_0) := (blk_cell BK118.out 0).trans rfl; have hcz15_1 : w13.cell? ⟨gb118, 1, none⟩ = some (.int .i64 a0_1) := (blk_cell BK118.out 1).trans rfl; have hfz15_0 := blk_frozen BK118.out 0; have hfz15_1 := blk_frozen BK118.out 1) | ((with_reducible refine gate_callee (f := 45) rfl ?_); refine goesL_ (some 19) rfl rfl Try.func45 (by kernel_rfl) rfl #[.agg #[.int .i64 a0_0, .int .i64 a0_1], .agg #[.int .i64 a1_0, .bool true, .string a1_2, .string a1_3]] rfl (by (try simp only [List.map_toArray, List.map_cons, List.map_nil]); first | done | rfl | (simp only [List.length_drop, List.length_take]; rfl)) ?_; (with_reducible refine (ranges_ends.calls a0_0 a0_1 a1_0 true a1_2 a1_3 t121 t122 t123 t124 t125 t126 true _ A6.out).mono ?_); rintro e w16 ⟨rfl, hb⟩; refine ⟨_, rfl, ?_⟩; have n0_ := Aside0.mk (blk_below (g := gb118) (o := .cells #[.int .i64 a0_0, .int .i64 a0_1] 24 (0, 0)) (by (with_reducible repeat (first | refine blk_drewN ?_ _ | refine blk_drew ?_ | refine blk_alloc ?_ _)); exact BK118.out) hb); have n1_ := Aside0.mk (blk_below (g := gb119) (o := .cells #[.int .i64 a1_0, .bool true, .string a1_2, .string a1_3] 31 (0, 0)) (by (with_reducible repeat (first | refine blk_drewN ?_ _ | refine blk_drew ?_ | refine blk_alloc ?_ _)); exact BK119.out) hb); have n2_ := Aside0.mk (below_step (by repeat (first | (with_reducible first | exact HB.out | apply below_alloc | apply pw_below_drewN | apply below_drew1 | refine below_set ?_ GE118.out | refine below_set ?_ GE119.out) | exact HB.out)) hb); clear BK118; clear BK119; clear HB; have BK118 := n0_; have BK119 := n1_; have HB := n2_; clear n0_ n1_ n2_; (try clear hb); (try clear hb2); (try clear hk); (try clear hi); have hcz17_0 : w16.cell? ⟨gb119, 0, none⟩ = some (.int .i64 a1_0) := (blk_cell BK119.out 0).trans rfl; have hcz17_1 : w16.cell? ⟨gb119, 1, none⟩ = some (.bool true) := (blk_cell BK119.out 1).trans rfl; have hcz17_2 : w16.cell? ⟨gb119, 2, none⟩ = some (.string a1_2) := (blk_cell BK119.out 2).trans rfl; have hcz17_3 : w16.cell? ⟨gb119, 3, none⟩ = some (.string a1_3) := (blk_cell BK119.out 3).trans rfl; have hfz17_0 := blk_frozen BK119.out 0; have hfz17_1 := blk_frozen BK119.out 1; have hfz17_2 := blk_frozen BK119.out 2; have hfz17_3 := blk_frozen BK119.out 3))
          go_ret
          exact ⟨by first | rfl | (simp [errW_none, errW_some] <;> rfl) | (simp [*, errW_none, errW_some] <;> rfl), by repeat (first | (with_reducible first | exact HB.out | apply below_alloc | apply pw_below_drewN | apply below_drew1 | refine below_set ?_ GE118.out | refine below_set ?_ GE119.out) | exact HB.out)⟩
        · rw [if_neg c8] at H
          have c8b0 : decide (a1_0 < 0) = false := decide_eq_false c8
          clear c8
          by_cases c18 : a1_0 > 65536
          · rw [if_pos c18] at H
            have c18b0 : decide (65536 < a1_0) = true := decide_eq_true c18
            clear c18
            obtain rfl := Option.some.inj H
            go_enter Try.func16, Try.ntmps16
            go_wp2_with (first | ((with_reducible refine gate_dst (N := 2) rfl ?_); refine box_event ?hg (N := 2) ?hd (cs := #[.int .i64 a0_0, .int .i64 a0_1]) (t := 24) ?hr ?_; (case hd => rfl); (case hg => rfl); (case hr => first | (go_simp; done) | (go_simp; rfl)); intro gb118 hg w19 hbox hb; have n0_ := Aside0.mk (below_step (by repeat (first | (with_reducible first | exact HB.out | apply below_alloc | apply pw_below_drewN | apply below_drew1) | exact HB.out)) hb); have n1_ := Aside0.mk (hbox); have n2_ := Aside0.mk ((by rw [hg]; exact (below_size (by repeat (first | (with_reducible first | exact HB.out | apply below_alloc | apply pw_below_drewN | apply below_drew1) | exact HB.out))) : w.heap.size ≤ gb118)); have n3_ := Aside0.mk ((by rw [hg]; exact (below_size (by repeat (first | (with_reducible first | exact HB.out | apply below_alloc | apply pw_below_drewN | apply below_drew1) | exact HB.out))) : w.heap.size ≤ gb118)); clear HB; have HB := n0_; have BK118 := n1_; have GW118 := n2_; have GE118 := n3_; clear n0_ n1_ n2_ n3_; clear hb hbox hg) | ((with_reducible refine gate_dst (N := 3) rfl ?_); refine box_event ?hg (N := 3) ?hd (cs := #[.int .i64 a1_0, .bool true, .string a1_2, .string a1_3]) (t := 31) ?hr ?_; (case hd => rfl); (case hg => rfl); (case hr => first | (go_simp; done) | (go_simp; rfl)); intro gb119 hg w20 hbox hb; have n0_ := Aside0.mk (blk_below (g := gb118) (o := .cells #[.int .i64 a0_0, .int .i64 a0_1] 24 (0, 0)) (by (with_reducible repeat (first | refine blk_drewN ?_ _ | refine blk_drew ?_ | refine blk_alloc ?_ _)); exact BK118.out) hb); have n1_ := Aside0.mk (below_step (by repeat (first | (with_reducible first | exact HB.out | apply below_alloc | apply pw_below_drewN | apply below_drew1 | refine below_set ?_ GE118.out) | exact HB.out)) hb); have n2_ := Aside0.mk (hbox); have n3_ := Aside0.mk ((by rw [hg]; exact (below_size (by repeat (first | (with_reducible first | exact HB.out | apply below_alloc | apply pw_below_drewN | apply below_drew1 | refine below_set ?_ GE118.out) | exact HB.out))) : w.heap.size ≤ gb119)); have n4_ := Aside0.mk ((by rw [hg]; exact (below_size (by repeat (first | (with_reducible first | exact HB.out | apply below_alloc | apply pw_below_drewN | apply below_drew1 | refine below_set ?_ GE118.out) | exact HB.out))) : w.heap.size ≤ gb119)); have n5_ := Aside0.mk ((by rw [hg]; exact Nat.ne_of_lt (blk_lt (g := gb118) (o := .cells #[.int .i64 a0_0, .int .i64 a0_1] 24 (0, 0)) (by (with_reducible repeat (first | refine blk_drewN ?_ _ | refine blk_drew ?_ | refine blk_alloc ?_ _)); exact BK118.out)) : gb118 ≠ gb119)); have n6_ := Aside0.mk ((by rw [hg]; exact Nat.ne_of_gt (blk_lt (g := gb118) (o := .cells #[.int .i64 a0_0, .int .i64 a0_1] 24 (0, 0)) (by (with_reducible repeat (first | refine blk_drewN ?_ _ | refine blk_drew ?_ | refine blk_alloc ?_ _)); exact BK118.out)) : gb119 ≠ gb118)); clear BK118; clear HB; have BK118 := n0_; have HB := n1_; have BK119 := n2_; have GW119 := n3_; have GE119 := n4_; have NB118_119 := n5_; have NB119_118 := n6_; clear n0_ n1_ n2_ n3_ n4_ n5_ n6_; clear hb hbox hg; have hnb21 := NB118_119.out; have hnc21 := NB119_118.out; have hcz22_0 : w20.cell? ⟨gb118, 0, none⟩ = some (.int .i64 a0_0) := (blk_cell BK118.out 0).trans rfl; have hcz22_1 : w20.cell? ⟨gb118, 1, none⟩ = some (.int .i64 a0_1) := (blk_cell BK118.out 1).trans rfl; have hfz22_0 := blk_frozen BK118.out 0; have hfz22_1 := blk_frozen BK118.out 1) | ((with_reducible refine gate_callee (f := 24) rfl ?_); refine goesL_ (some 7) rfl rfl Try.func24 (by kernel_rfl) rfl #[.agg #[.int .i64 a0_0, .int .i64 a0_1]] rfl (by (try simp only [List.map_toArray, List.map_cons, List.map_nil]); first | done | rfl | (simp only [List.length_drop, List.length_take]; rfl)) ?_; (with_reducible refine (datum_Check.calls a0_0 a0_1 t120 _ A3.out).mono ?_); rintro e w23 ⟨rfl, hb⟩; refine ⟨_, rfl, ?_⟩; have n0_ := Aside0.mk (blk_below (g := gb118) (o := .cells #[.int .i64 a0_0, .int .i64 a0_1] 24 (0, 0)) (by (with_reducible repeat (first | refine blk_drewN ?_ _ | refine blk_drew ?_ | refine blk_alloc ?_ _)); exact BK118.out) hb); have n1_ := Aside0.mk (blk_below (g := gb119) (o := .cells #[.int .i64 a1_0, .bool true, .string a1_2, .string a1_3] 31 (0, 0)) (by (with_reducible repeat (first | refine blk_drewN ?_ _ | refine blk_drew ?_ | refine blk_alloc ?_ _)); exact BK119.out) hb); have n2_ := Aside0.mk (below_step (by repeat (first | (with_reducible first | exact HB.out | apply below_alloc | apply pw_below_drewN | apply below_drew1 | refine below_set ?_ GE118.out | refine below_set ?_ GE119.out) | exact HB.out)) hb); clear BK118; clear BK119; clear HB; have BK118 := n0_; have BK119 := n1_; have HB := n2_; clear n0_ n1_ n2_; (try clear hb); (try clear hb2); (try clear hk); (try clear hi); have hcz24_0 : w23.cell? ⟨gb119, 0, none⟩ = some (.int .i64 a1_0) := (blk_cell BK119.out 0).trans rfl; have hcz24_1 : w23.cell? ⟨gb119, 1, none⟩ = some (.bool true) := (blk_cell BK119.out 1).trans rfl; have hcz24_2 : w23.cell? ⟨gb119, 2, none⟩ = some (.string a1_2) := (blk_cell BK119.out 2).trans rfl; have hcz24_3 : w23.cell? ⟨gb119, 3, none⟩ = some (.string a1_3) := (blk_cell BK119.out 3).trans rfl; have hfz24_0 := blk_frozen BK119.out 0; have hfz24_1 := blk_frozen BK119.out 1; have hfz24_2 := blk_frozen BK119.out 2; have hfz24_3 := blk_frozen BK119.out 3; have hcz25_0 : w23.cell? ⟨gb118, 0, none⟩ = some (.int .i64 a0_0) := (blk_cell BK118.out 0).trans rfl; have hcz25_1 : w23.cell? ⟨gb118, 1, none⟩ = some (.int .i64 a0_1) := (blk_cell BK118.out 1).trans rfl; have hfz25_0 := blk_frozen BK118.out 0; have hfz25_1 := blk_frozen BK118.out 1) | ((with_reducible refine gate_callee (f := 45) rfl ?_); refine goesL_ (some 19) rfl rfl Try.func45 (by kernel_rfl) rfl #[.agg #[.int .i64 a0_0, .int .i64 a0_1], .agg #[.int .i64 a1_0, .bool true, .string a1_2, .string a1_3]] rfl (by (try simp only [List.map_toArray, List.map_cons, List.map_nil]); first | done | rfl | (simp only [List.length_drop, List.length_take]; rfl)) ?_; (with_reducible refine (ranges_ends.calls a0_0 a0_1 a1_0 true a1_2 a1_3 t121 t122 t123 t124 t125 t126 true _ A6.out).mono ?_); rintro e w26 ⟨rfl, hb⟩; refine ⟨_, rfl, ?_⟩; have n0_ := Aside0.mk (blk_below (g := gb118) (o := .cells #[.int .i64 a0_0, .int .i64 a0_1] 24 (0, 0)) (by (with_reducible repeat (first | refine blk_drewN ?_ _ | refine blk_drew ?_ | refine blk_alloc ?_ _)); exact BK118.out) hb); have n1_ := Aside0.mk (blk_below (g := gb119) (o := .cells #[.int .i64 a1_0, .bool true, .string a1_2, .string a1_3] 31 (0, 0)) (by (with_reducible repeat (first | refine blk_drewN ?_ _ | refine blk_drew ?_ | refine blk_alloc ?_ _)); exact BK119.out) hb); have n2_ := Aside0.mk (below_step (by repeat (first | (with_reducible first | exact HB.out | apply below_alloc | apply pw_below_drewN | apply below_drew1 | refine below_set ?_ GE118.out | refine below_set ?_ GE119.out) | exact HB.out)) hb); clear BK118; clear BK119; clear HB; have BK118 := n0_; have BK119 := n1_; have HB := n2_; clear n0_ n1_ n2_; (try clear hb); (try clear hb2); (try clear hk); (try clear hi); have hcz27_0 : w26.cell? ⟨gb119, 0, none⟩ = some (.int .i64 a1_0) := (blk_cell BK119.out 0).trans rfl; have hcz27_1 : w26.cell? ⟨gb119, 1, none⟩ = some (.bool true) := (blk_cell BK119.out 1).trans rfl; have hcz27_2 : w26.cell? ⟨gb119, 2, none⟩ = some (.string a1_2) := (blk_cell BK119.out 2).trans rfl; have hcz27_3 : w26.cell? ⟨gb119, 3, none⟩ = some (.string a1_3) := (blk_cell BK119.out 3).trans rfl; have hfz27_0 := blk_frozen BK119.out 0; have hfz27_1 := blk_frozen BK119.out 1; have hfz27_2 := blk_frozen BK119.out 2; have hfz27_3 := blk_frozen BK119.out 3))
            go_ret
            exact ⟨by first | rfl | (simp [errW_none, errW_some] <;> rfl) | (simp [*, errW_none, errW_some] <;> rfl), by repeat (first | (with_reducible first | exact HB.out | apply below_alloc | apply pw_below_drewN | apply below_drew1 | refine below_set ?_ GE118.out | refine below_set ?_ GE119.out) | exact HB.out)⟩
          · rw [if_neg c18] at H
            have c18b0 : decide (65536 < a1_0) = false := decide_eq_false c18
            clear c18
            obtain rfl := Option.some.inj H
            go_enter Try.func16, Try.ntmps16
            go_wp2_with (first | ((with_reducible refine gate_dst (N := 2) rfl ?_); refine box_event ?hg (N := 2) ?hd (cs := #[.int .i64 a0_0, .int .i64 a0_1]) (t := 24) ?hr ?_; (case hd => rfl); (case hg => rfl); (case hr => first | (go_simp; done) | (go_simp; rfl)); intro gb118 hg w28 hbox hb; have n0_ := Aside0.mk (below_step (by repeat (first | (with_reducible first | exact HB.out | apply below_alloc | apply pw_below_drewN | apply below_drew1) | exact HB.out)) hb); have n1_ := Aside0.mk (hbox); have n2_ := Aside0.mk ((by rw [hg]; exact (below_size (by repeat (first | (with_reducible first | exact HB.out | apply below_alloc | apply pw_below_drewN | apply below_drew1) | exact HB.out))) : w.heap.size ≤ gb118)); have n3_ := Aside0.mk ((by rw [hg]; exact (below_size (by repeat (first | (with_reducible first | exact HB.out | apply below_alloc | apply pw_below_drewN | apply below_drew1) | exact HB.out))) : w.heap.size ≤ gb118)); clear HB; have HB := n0_; have BK118 := n1_; have GW118 := n2_; have GE118 := n3_; clear n0_ n1_ n2_ n3_; clear hb hbox hg) | ((with_reducible refine gate_dst (N := 3) rfl ?_); refine box_event ?hg (N := 3) ?hd (cs := #[.int .i64 a1_0, .bool true, .string a1_2, .string a1_3]) (t := 31) ?hr ?_; (case hd => rfl); (case hg => rfl); (case hr => first | (go_simp; done) | (go_simp; rfl)); intro gb119 hg w29 hbox hb; have n0_ := Aside0.mk (blk_below (g := gb118) (o := .cells #[.int .i64 a0_0, .int .i64 a0_1] 24 (0, 0)) (by (with_reducible repeat (first | refine blk_drewN ?_ _ | refine blk_drew ?_ | refine blk_alloc ?_ _)); exact BK118.out) hb); have n1_ := Aside0.mk (below_step (by repeat (first | (with_reducible first | exact HB.out | apply below_alloc | apply pw_below_drewN | apply below_drew1 | refine below_set ?_ GE118.out) | exact HB.out)) hb); have n2_ := Aside0.mk (hbox); have n3_ := Aside0.mk ((by rw [hg]; exact (below_size (by repeat (first | (with_reducible first | exact HB.out | apply below_alloc | apply pw_below_drewN | apply below_drew1 | refine below_set ?_ GE118.out) | exact HB.out))) : w.heap.size ≤ gb119)); have n4_ := Aside0.mk ((by rw [hg]; exact (below_size (by repeat (first | (with_reducible first | exact HB.out | apply below_alloc | apply pw_below_drewN | apply below_drew1 | refine below_set ?_ GE118.out) | exact HB.out))) : w.heap.size ≤ gb119)); have n5_ := Aside0.mk ((by rw [hg]; exact Nat.ne_of_lt (blk_lt (g := gb118) (o := .cells #[.int .i64 a0_0, .int .i64 a0_1] 24 (0, 0)) (by (with_reducible repeat (first | refine blk_drewN ?_ _ | refine blk_drew ?_ | refine blk_alloc ?_ _)); exact BK118.out)) : gb118 ≠ gb119)); have n6_ := Aside0.mk ((by rw [hg]; exact Nat.ne_of_gt (blk_lt (g := gb118) (o := .cells #[.int .i64 a0_0, .int .i64 a0_1] 24 (0, 0)) (by (with_reducible repeat (first | refine blk_drewN ?_ _ | refine blk_drew ?_ | refine blk_alloc ?_ _)); exact BK118.out)) : gb119 ≠ gb118)); clear BK118; clear HB; have BK118 := n0_; have HB := n1_; have BK119 := n2_; have GW119 := n3_; have GE119 := n4_; have NB118_119 := n5_; have NB119_118 := n6_; clear n0_ n1_ n2_ n3_ n4_ n5_ n6_; clear hb hbox hg; have hnb30 := NB118_119.out; have hnc30 := NB119_118.out; have hcz31_0 : w29.cell? ⟨gb118, 0, none⟩ = some (.int .i64 a0_0) := (blk_cell BK118.out 0).trans rfl; have hcz31_1 : w29.cell? ⟨gb118, 1, none⟩ = some (.int .i64 a0_1) := (blk_cell BK118.out 1).trans rfl; have hfz31_0 := blk_frozen BK118.out 0; have hfz31_1 := blk_frozen BK118.out 1) | ((with_reducible refine gate_callee (f := 24) rfl ?_); refine goesL_ (some 7) rfl rfl Try.func24 (by kernel_rfl) rfl #[.agg #[.int .i64 a0_0, .int .i64 a0_1]] rfl (by (try simp only [List.map_toArray, List.map_cons, List.map_nil]); first | done | rfl | (simp only [List.length_drop, List.length_take]; rfl)) ?_; (with_reducible refine (datum_Check.calls a0_0 a0_1 t120 _ A3.out).mono ?_); rintro e w32 ⟨rfl, hb⟩; refine ⟨_, rfl, ?_⟩; have n0_ := Aside0.mk (blk_below (g := gb118) (o := .cells #[.int .i64 a0_0, .int .i64 a0_1] 24 (0, 0)) (by (with_reducible repeat (first | refine blk_drewN ?_ _ | refine blk_drew ?_ | refine blk_alloc ?_ _)); exact BK118.out) hb); have n1_ := Aside0.mk (blk_below (g := gb119) (o := .cells #[.int .i64 a1_0, .bool true, .string a1_2, .string a1_3] 31 (0, 0)) (by (with_reducible repeat (first | refine blk_drewN ?_ _ | refine blk_drew ?_ | refine blk_alloc ?_ _)); exact BK119.out) hb); have n2_ := Aside0.mk (below_step (by repeat (first | (with_reducible first | exact HB.out | apply below_alloc | apply pw_below_drewN | apply below_drew1 | refine below_set ?_ GE118.out | refine below_set ?_ GE119.out) | exact HB.out)) hb); clear BK118; clear BK119; clear HB; have BK118 := n0_; have BK119 := n1_; have HB := n2_; clear n0_ n1_ n2_; (try clear hb); (try clear hb2); (try clear hk); (try clear hi); have hcz33_0 : w32.cell? ⟨gb119, 0, none⟩ = some (.int .i64 a1_0) := (blk_cell BK119.out 0).trans rfl; have hcz33_1 : w32.cell? ⟨gb119, 1, none⟩ = some (.bool true) := (blk_cell BK119.out 1).trans rfl; have hcz33_2 : w32.cell? ⟨gb119, 2, none⟩ = some (.string a1_2) := (blk_cell BK119.out 2).trans rfl; have hcz33_3 : w32.cell? ⟨gb119, 3, none⟩ = some (.string a1_3) := (blk_cell BK119.out 3).trans rfl; have hfz33_0 := blk_frozen BK119.out 0; have hfz33_1 := blk_frozen BK119.out 1; have hfz33_2 := blk_frozen BK119.out 2; have hfz33_3 := blk_frozen BK119.out 3; have hcz34_0 : w32.cell? ⟨gb118, 0, none⟩ = some (.int .i64 a0_0) := (blk_cell BK118.out 0).trans rfl; have hcz34_1 : w32.cell? ⟨gb118, 1, none⟩ = some (.int .i64 a0_1) := (blk_cell BK118.out 1).trans rfl; have hfz34_0 := blk_frozen BK118.out 0; have hfz34_1 := blk_frozen BK118.out 1) | ((with_reducible refine gate_callee (f := 45) rfl ?_); refine goesL_ (some 19) rfl rfl Try.func45 (by kernel_rfl) rfl #[.agg #[.int .i64 a0_0, .int .i64 a0_1], .agg #[.int .i64 a1_0, .bool true, .string a1_2, .string a1_3]] rfl (by (try simp only [List.map_toArray, List.map_cons, List.map_nil]); first | done | rfl | (simp only [List.length_drop, List.length_take]; rfl)) ?_; (with_reducible refine (ranges_ends.calls a0_0 a0_1 a1_0 true a1_2 a1_3 t121 t122 t123 t124 t125 t126 true _ A6.out).mono ?_); rintro e w35 ⟨rfl, hb⟩; refine ⟨_, rfl, ?_⟩; have n0_ := Aside0.mk (blk_below (g := gb118) (o := .cells #[.int .i64 a0_0, .int .i64 a0_1] 24 (0, 0)) (by (with_reducible repeat (first | refine blk_drewN ?_ _ | refine blk_drew ?_ | refine blk_alloc ?_ _)); exact BK118.out) hb); have n1_ := Aside0.mk (blk_below (g := gb119) (o := .cells #[.int .i64 a1_0, .bool true, .string a1_2, .string a1_3] 31 (0, 0)) (by (with_reducible repeat (first | refine blk_drewN ?_ _ | refine blk_drew ?_ | refine blk_alloc ?_ _)); exact BK119.out) hb); have n2_ := Aside0.mk (below_step (by repeat (first | (with_reducible first | exact HB.out | apply below_alloc | apply pw_below_drewN | apply below_drew1 | refine below_set ?_ GE118.out | refine below_set ?_ GE119.out) | exact HB.out)) hb); clear BK118; clear BK119; clear HB; have BK118 := n0_; have BK119 := n1_; have HB := n2_; clear n0_ n1_ n2_; (try clear hb); (try clear hb2); (try clear hk); (try clear hi); have hcz36_0 : w35.cell? ⟨gb119, 0, none⟩ = some (.int .i64 a1_0) := (blk_cell BK119.out 0).trans rfl; have hcz36_1 : w35.cell? ⟨gb119, 1, none⟩ = some (.bool true) := (blk_cell BK119.out 1).trans rfl; have hcz36_2 : w35.cell? ⟨gb119, 2, none⟩ = some (.string a1_2) := (blk_cell BK119.out 2).trans rfl; have hcz36_3 : w35.cell? ⟨gb119, 3, none⟩ = some (.string a1_3) := (blk_cell BK119.out 3).trans rfl; have hfz36_0 := blk_frozen BK119.out 0; have hfz36_1 := blk_frozen BK119.out 1; have hfz36_2 := blk_frozen BK119.out 2; have hfz36_3 := blk_frozen BK119.out 3))
            go_ret
            exact ⟨by first | rfl | (simp [errW_none, errW_some] <;> rfl) | (simp [*, errW_none, errW_some] <;> rfl), by repeat (first | (with_reducible first | exact HB.out | apply below_alloc | apply pw_below_drewN | apply below_drew1 | refine below_set ?_ GE118.out | refine below_set ?_ GE119.out) | exact HB.out)⟩
      · replace c7 := Bool.eq_false_iff.mpr c7
        subst c7
        have H1 : (some 320) = some r := by rw [if_neg (show ¬ (false = true) by decide)] at H; exact H
        clear H
        have H := H1
        clear H1
        obtain rfl := Option.some.inj H
        go_enter Try.func16, Try.ntmps16
        go_wp2_with (first | ((with_reducible refine gate_dst (N := 2) rfl ?_); refine box_event ?hg (N := 2) ?hd (cs := #[.int .i64 a0_0, .int .i64 a0_1]) (t := 24) ?hr ?_; (case hd => rfl); (case hg => rfl); (case hr => first | (go_simp; done) | (go_simp; rfl)); intro gb118 hg w37 hbox hb; have n0_ := Aside0.mk (below_step (by repeat (first | (with_reducible first | exact HB.out | apply below_alloc | apply pw_below_drewN | apply below_drew1) | exact HB.out)) hb); have n1_ := Aside0.mk (hbox); have n2_ := Aside0.mk ((by rw [hg]; exact (below_size (by repeat (first | (with_reducible first | exact HB.out | apply below_alloc | apply pw_below_drewN | apply below_drew1) | exact HB.out))) : w.heap.size ≤ gb118)); have n3_ := Aside0.mk ((by rw [hg]; exact (below_size (by repeat (first | (with_reducible first | exact HB.out | apply below_alloc | apply pw_below_drewN | apply below_drew1) | exact HB.out))) : w.heap.size ≤ gb118)); clear HB; have HB := n0_; have BK118 := n1_; have GW118 := n2_; have GE118 := n3_; clear n0_ n1_ n2_ n3_; clear hb hbox hg) | ((with_reducible refine gate_dst (N := 3) rfl ?_); refine box_event ?hg (N := 3) ?hd (cs := #[.int .i64 a1_0, .bool true, .string a1_2, .string a1_3]) (t := 31) ?hr ?_; (case hd => rfl); (case hg => rfl); (case hr => first | (go_simp; done) | (go_simp; rfl)); intro gb119 hg w38 hbox hb; have n0_ := Aside0.mk (blk_below (g := gb118) (o := .cells #[.int .i64 a0_0, .int .i64 a0_1] 24 (0, 0)) (by (with_reducible repeat (first | refine blk_drewN ?_ _ | refine blk_drew ?_ | refine blk_alloc ?_ _)); exact BK118.out) hb); have n1_ := Aside0.mk (below_step (by repeat (first | (with_reducible first | exact HB.out | apply below_alloc | apply pw_below_drewN | apply below_drew1 | refine below_set ?_ GE118.out) | exact HB.out)) hb); have n2_ := Aside0.mk (hbox); have n3_ := Aside0.mk ((by rw [hg]; exact (below_size (by repeat (first | (with_reducible first | exact HB.out | apply below_alloc | apply pw_below_drewN | apply below_drew1 | refine below_set ?_ GE118.out) | exact HB.out))) : w.heap.size ≤ gb119)); have n4_ := Aside0.mk ((by rw [hg]; exact (below_size (by repeat (first | (with_reducible first | exact HB.out | apply below_alloc | apply pw_below_drewN | apply below_drew1 | refine below_set ?_ GE118.out) | exact HB.out))) : w.heap.size ≤ gb119)); have n5_ := Aside0.mk ((by rw [hg]; exact Nat.ne_of_lt (blk_lt (g := gb118) (o := .cells #[.int .i64 a0_0, .int .i64 a0_1] 24 (0, 0)) (by (with_reducible repeat (first | refine blk_drewN ?_ _ | refine blk_drew ?_ | refine blk_alloc ?_ _)); exact BK118.out)) : gb118 ≠ gb119)); have n6_ := Aside0.mk ((by rw [hg]; exact Nat.ne_of_gt (blk_lt (g := gb118) (o := .cells #[.int .i64 a0_0, .int .i64 a0_1] 24 (0, 0)) (by (with_reducible repeat (first | refine blk_drewN ?_ _ | refine blk_drew ?_ | refine blk_alloc ?_ _)); exact BK118.out)) : gb119 ≠ gb118)); clear BK118; clear HB; have BK118 := n0_; have HB := n1_; have BK119 := n2_; have GW119 := n3_; have GE119 := n4_; have NB118_119 := n5_; have NB119_118 := n6_; clear n0_ n1_ n2_ n3_ n4_ n5_ n6_; clear hb hbox hg; have hnb39 := NB118_119.out; have hnc39 := NB119_118.out; have hcz40_0 : w38.cell? ⟨gb118, 0, none⟩ = some (.int .i64 a0_0) := (blk_cell BK118.out 0).trans rfl; have hcz40_1 : w38.cell? ⟨gb118, 1, none⟩ = some (.int .i64 a0_1) := (blk_cell BK118.out 1).trans rfl; have hfz40_0 := blk_frozen BK118.out 0; have hfz40_1 := blk_frozen BK118.out 1) | ((with_reducible refine gate_callee (f := 24) rfl ?_); refine goesL_ (some 7) rfl rfl Try.func24 (by kernel_rfl) rfl #[.agg #[.int .i64 a0_0, .int .i64 a0_1]] rfl (by (try simp only [List.map_toArray, List.map_cons, List.map_nil]); first | done | rfl | (simp only [List.length_drop, List.length_take]; rfl)) ?_; (with_reducible refine (datum_Check.calls a0_0 a0_1 t120 _ A3.out).mono ?_); rintro e w41 ⟨rfl, hb⟩; refine ⟨_, rfl, ?_⟩; have n0_ := Aside0.mk (blk_below (g := gb118) (o := .cells #[.int .i64 a0_0, .int .i64 a0_1] 24 (0, 0)) (by (with_reducible repeat (first | refine blk_drewN ?_ _ | refine blk_drew ?_ | refine blk_alloc ?_ _)); exact BK118.out) hb); have n1_ := Aside0.mk (blk_below (g := gb119) (o := .cells #[.int .i64 a1_0, .bool true, .string a1_2, .string a1_3] 31 (0, 0)) (by (with_reducible repeat (first | refine blk_drewN ?_ _ | refine blk_drew ?_ | refine blk_alloc ?_ _)); exact BK119.out) hb); have n2_ := Aside0.mk (below_step (by repeat (first | (with_reducible first | exact HB.out | apply below_alloc | apply pw_below_drewN | apply below_drew1 | refine below_set ?_ GE118.out | refine below_set ?_ GE119.out) | exact HB.out)) hb); clear BK118; clear BK119; clear HB; have BK118 := n0_; have BK119 := n1_; have HB := n2_; clear n0_ n1_ n2_; (try clear hb); (try clear hb2); (try clear hk); (try clear hi); have hcz42_0 : w41.cell? ⟨gb119, 0, none⟩ = some (.int .i64 a1_0) := (blk_cell BK119.out 0).trans rfl; have hcz42_1 : w41.cell? ⟨gb119, 1, none⟩ = some (.bool true) := (blk_cell BK119.out 1).trans rfl; have hcz42_2 : w41.cell? ⟨gb119, 2, none⟩ = some (.string a1_2) := (blk_cell BK119.out 2).trans rfl; have hcz42_3 : w41.cell? ⟨gb119, 3, none⟩ = some (.string a1_3) := (blk_cell BK119.out 3).trans rfl; have hfz42_0 := blk_frozen BK119.out 0; have hfz42_1 := blk_frozen BK119.out 1; have hfz42_2 := blk_frozen BK119.out 2; have hfz42_3 := blk_frozen BK119.out 3; have hcz43_0 : w41.cell? ⟨gb118, 0, none⟩ = some (.int .i64 a0_0) := (blk_cell BK118.out 0).trans rfl; have hcz43_1 : w41.cell? ⟨gb118, 1, none⟩ = some (.int .i64 a0_1) := (blk_cell BK118.out 1).trans rfl; have hfz43_0 := blk_frozen BK118.out 0; have hfz43_1 := blk_frozen BK118.out 1) | ((with_reducible refine gate_callee (f := 45) rfl ?_); refine goesL_ (some 19) rfl rfl Try.func45 (by kernel_rfl) rfl #[.agg #[.int .i64 a0_0, .int .i64 a0_1], .agg #[.int .i64 a1_0, .bool true, .string a1_2, .string a1_3]] rfl (by (try simp only [List.map_toArray, List.map_cons, List.map_nil]); first | done | rfl | (simp only [List.length_drop, List.length_take]; rfl)) ?_; (with_reducible refine (ranges_ends.calls a0_0 a0_1 a1_0 true a1_2 a1_3 t121 t122 t123 t124 t125 t126 false _ A6.out).mono ?_); rintro e w44 ⟨rfl, hb⟩; refine ⟨_, rfl, ?_⟩; have n0_ := Aside0.mk (blk_below (g := gb118) (o := .cells #[.int .i64 a0_0, .int .i64 a0_1] 24 (0, 0)) (by (with_reducible repeat (first | refine blk_drewN ?_ _ | refine blk_drew ?_ | refine blk_alloc ?_ _)); exact BK118.out) hb); have n1_ := Aside0.mk (blk_below (g := gb119) (o := .cells #[.int .i64 a1_0, .bool true, .string a1_2, .string a1_3] 31 (0, 0)) (by (with_reducible repeat (first | refine blk_drewN ?_ _ | refine blk_drew ?_ | refine blk_alloc ?_ _)); exact BK119.out) hb); have n2_ := Aside0.mk (below_step (by repeat (first | (with_reducible first | exact HB.out | apply below_alloc | apply pw_below_drewN | apply below_drew1 | refine below_set ?_ GE118.out | refine below_set ?_ GE119.out) | exact HB.out)) hb); clear BK118; clear BK119; clear HB; have BK118 := n0_; have BK119 := n1_; have HB := n2_; clear n0_ n1_ n2_; (try clear hb); (try clear hb2); (try clear hk); (try clear hi)))
        go_ret
        exact ⟨by first | rfl | (simp [errW_none, errW_some] <;> rfl) | (simp [*, errW_none, errW_some] <;> rfl), by repeat (first | (with_reducible first | exact HB.out | apply below_alloc | apply pw_below_drewN | apply below_drew1 | refine below_set ?_ GE118.out | refine below_set ?_ GE119.out) | exact HB.out)⟩
    · replace c5 := Bool.eq_false_iff.mpr c5
      subst c5
      have H1 : (if ((!false && (a1_2.toList == ([] : List UInt8) && (a1_3.toList == ([] : List UInt8)))) = true) then (if a1_0 < 0 then (some 320) else (if a1_0 > 65536 then (some 320) else (some 0))) else (some 320)) = some r := by rw [if_neg (show ¬ (false = true) by decide)] at H; exact H
      clear H
      have H := H1
      clear H1
      by_cases c45 : ((!false && (a1_2.toList == ([] : List UInt8) && (a1_3.toList == ([] : List UInt8)))) = true)
      · rw [if_pos c45] at H
        have c45b0 : (!false && (a1_2.toList == ([] : List UInt8) && (a1_3.toList == ([] : List UInt8)))) = true := c45
        have c45b9 : (a1_2.toList.isEmpty && a1_3.toList.isEmpty) = true := by simpa using c45b0
        clear c45
        by_cases c46 : a1_0 < 0
        · rw [if_pos c46] at H
          have c46b0 : decide (a1_0 < 0) = true := decide_eq_true c46
          clear c46
          obtain rfl := Option.some.inj H
          go_enter Try.func16, Try.ntmps16
          go_wp2_with (first | ((with_reducible refine gate_dst (N := 2) rfl ?_); refine box_event ?hg (N := 2) ?hd (cs := #[.int .i64 a0_0, .int .i64 a0_1]) (t := 24) ?hr ?_; (case hd => rfl); (case hg => rfl); (case hr => first | (go_simp; done) | (go_simp; rfl)); intro gb118 hg w47 hbox hb; have n0_ := Aside0.mk (below_step (by repeat (first | (with_reducible first | exact HB.out | apply below_alloc | apply pw_below_drewN | apply below_drew1) | exact HB.out)) hb); have n1_ := Aside0.mk (hbox); have n2_ := Aside0.mk ((by rw [hg]; exact (below_size (by repeat (first | (with_reducible first | exact HB.out | apply below_alloc | apply pw_below_drewN | apply below_drew1) | exact HB.out))) : w.heap.size ≤ gb118)); have n3_ := Aside0.mk ((by rw [hg]; exact (below_size (by repeat (first | (with_reducible first | exact HB.out | apply below_alloc | apply pw_below_drewN | apply below_drew1) | exact HB.out))) : w.heap.size ≤ gb118)); clear HB; have HB := n0_; have BK118 := n1_; have GW118 := n2_; have GE118 := n3_; clear n0_ n1_ n2_ n3_; clear hb hbox hg) | ((with_reducible refine gate_dst (N := 3) rfl ?_); refine box_event ?hg (N := 3) ?hd (cs := #[.int .i64 a1_0, .bool false, .string a1_2, .string a1_3]) (t := 31) ?hr ?_; (case hd => rfl); (case hg => rfl); (case hr => first | (go_simp; done) | (go_simp; rfl)); intro gb119 hg w48 hbox hb; have n0_ := Aside0.mk (blk_below (g := gb118) (o := .cells #[.int .i64 a0_0, .int .i64 a0_1] 24 (0, 0)) (by (with_reducible repeat (first | refine blk_drewN ?_ _ | refine blk_drew ?_ | refine blk_alloc ?_ _)); exact BK118.out) hb); have n1_ := Aside0.mk (below_step (by repeat (first | (with_reducible first | exact HB.out | apply below_alloc | apply pw_below_drewN | apply below_drew1 | refine below_set ?_ GE118.out) | exact HB.out)) hb); have n2_ := Aside0.mk (hbox); have n3_ := Aside0.mk ((by rw [hg]; exact (below_size (by repeat (first | (with_reducible first | exact HB.out | apply below_alloc | apply pw_below_drewN | apply below_drew1 | refine below_set ?_ GE118.out) | exact HB.out))) : w.heap.size ≤ gb119)); have n4_ := Aside0.mk ((by rw [hg]; exact (below_size (by repeat (first | (with_reducible first | exact HB.out | apply below_alloc | apply pw_below_drewN | apply below_drew1 | refine below_set ?_ GE118.out) | exact HB.out))) : w.heap.size ≤ gb119)); have n5_ := Aside0.mk ((by rw [hg]; exact Nat.ne_of_lt (blk_lt (g := gb118) (o := .cells #[.int .i64 a0_0, .int .i64 a0_1] 24 (0, 0)) (by (with_reducible repeat (first | refine blk_drewN ?_ _ | refine blk_drew ?_ | refine blk_alloc ?_ _)); exact BK118.out)) : gb118 ≠ gb119)); have n6_ := Aside0.mk ((by rw [hg]; exact Nat.ne_of_gt (blk_lt (g := gb118) (o := .cells #[.int .i64 a0_0, .int .i64 a0_1] 24 (0, 0)) (by (with_reducible repeat (first | refine blk_drewN ?_ _ | refine blk_drew ?_ | refine blk_alloc ?_ _)); exact BK118.out)) : gb119 ≠ gb118)); clear BK118; clear HB; have BK118 := n0_; have HB := n1_; have BK119 := n2_; have GW119 := n3_; have GE119 := n4_; have NB118_119 := n5_; have NB119_118 := n6_; clear n0_ n1_ n2_ n3_ n4_ n5_ n6_; clear hb hbox hg; have hnb49 := NB118_119.out; have hnc49 := NB119_118.out; have hcz50_0 : w48.cell? ⟨gb118, 0, none⟩ = some (.int .i64 a0_0) := (blk_cell BK118.out 0).trans rfl; have hcz50_1 : w48.cell? ⟨gb118, 1, none⟩ = some (.int .i64 a0_1) := (blk_cell BK118.out 1).trans rfl; have hfz50_0 := blk_frozen BK118.out 0; have hfz50_1 := blk_frozen BK118.out 1) | ((with_reducible refine gate_callee (f := 24) rfl ?_); refine goesL_ (some 7) rfl rfl Try.func24 (by kernel_rfl) rfl #[.agg #[.int .i64 a0_0, .int .i64 a0_1]] rfl (by (try simp only [List.map_toArray, List.map_cons, List.map_nil]); first | done | rfl | (simp only [List.length_drop, List.length_take]; rfl)) ?_; (with_reducible refine (datum_Check.calls a0_0 a0_1 t120 _ A3.out).mono ?_); rintro e w51 ⟨rfl, hb⟩; refine ⟨_, rfl, ?_⟩; have n0_ := Aside0.mk (blk_below (g := gb118) (o := .cells #[.int .i64 a0_0, .int .i64 a0_1] 24 (0, 0)) (by (with_reducible repeat (first | refine blk_drewN ?_ _ | refine blk_drew ?_ | refine blk_alloc ?_ _)); exact BK118.out) hb); have n1_ := Aside0.mk (blk_below (g := gb119) (o := .cells #[.int .i64 a1_0, .bool false, .string a1_2, .string a1_3] 31 (0, 0)) (by (with_reducible repeat (first | refine blk_drewN ?_ _ | refine blk_drew ?_ | refine blk_alloc ?_ _)); exact BK119.out) hb); have n2_ := Aside0.mk (below_step (by repeat (first | (with_reducible first | exact HB.out | apply below_alloc | apply pw_below_drewN | apply below_drew1 | refine below_set ?_ GE118.out | refine below_set ?_ GE119.out) | exact HB.out)) hb); clear BK118; clear BK119; clear HB; have BK118 := n0_; have BK119 := n1_; have HB := n2_; clear n0_ n1_ n2_; (try clear hb); (try clear hb2); (try clear hk); (try clear hi); have hcz52_0 : w51.cell? ⟨gb119, 0, none⟩ = some (.int .i64 a1_0) := (blk_cell BK119.out 0).trans rfl; have hcz52_1 : w51.cell? ⟨gb119, 1, none⟩ = some (.bool false) := (blk_cell BK119.out 1).trans rfl; have hcz52_2 : w51.cell? ⟨gb119, 2, none⟩ = some (.string a1_2) := (blk_cell BK119.out 2).trans rfl; have hcz52_3 : w51.cell? ⟨gb119, 3, none⟩ = some (.string a1_3) := (blk_cell BK119.out 3).trans rfl; have hfz52_0 := blk_frozen BK119.out 0; have hfz52_1 := blk_frozen BK119.out 1; have hfz52_2 := blk_frozen BK119.out 2; have hfz52_3 := blk_frozen BK119.out 3))
          go_ret
          exact ⟨by first | rfl | (simp [errW_none, errW_some] <;> rfl) | (simp [*, errW_none, errW_some] <;> rfl), by repeat (first | (with_reducible first | exact HB.out | apply below_alloc | apply pw_below_drewN | apply below_drew1 | refine below_set ?_ GE118.out | refine below_set ?_ GE119.out) | exact HB.out)⟩
        · rw [if_neg c46] at H
          have c46b0 : decide (a1_0 < 0) = false := decide_eq_false c46
          clear c46
          by_cases c53 : a1_0 > 65536
          · rw [if_pos c53] at H
            have c53b0 : decide (65536 < a1_0) = true := decide_eq_true c53
            clear c53
            obtain rfl := Option.some.inj H
            go_enter Try.func16, Try.ntmps16
            go_wp2_with (first | ((with_reducible refine gate_dst (N := 2) rfl ?_); refine box_event ?hg (N := 2) ?hd (cs := #[.int .i64 a0_0, .int .i64 a0_1]) (t := 24) ?hr ?_; (case hd => rfl); (case hg => rfl); (case hr => first | (go_simp; done) | (go_simp; rfl)); intro gb118 hg w54 hbox hb; have n0_ := Aside0.mk (below_step (by repeat (first | (with_reducible first | exact HB.out | apply below_alloc | apply pw_below_drewN | apply below_drew1) | exact HB.out)) hb); have n1_ := Aside0.mk (hbox); have n2_ := Aside0.mk ((by rw [hg]; exact (below_size (by repeat (first | (with_reducible first | exact HB.out | apply below_alloc | apply pw_below_drewN | apply below_drew1) | exact HB.out))) : w.heap.size ≤ gb118)); have n3_ := Aside0.mk ((by rw [hg]; exact (below_size (by repeat (first | (with_reducible first | exact HB.out | apply below_alloc | apply pw_below_drewN | apply below_drew1) | exact HB.out))) : w.heap.size ≤ gb118)); clear HB; have HB := n0_; have BK118 := n1_; have GW118 := n2_; have GE118 := n3_; clear n0_ n1_ n2_ n3_; clear hb hbox hg) | ((with_reducible refine gate_dst (N := 3) rfl ?_); refine box_event ?hg (N := 3) ?hd (cs := #[.int .i64 a1_0, .bool false, .string a1_2, .string a1_3]) (t := 31) ?hr ?_; (case hd => rfl); (case hg => rfl); (case hr => first | (go_simp; done) | (go_simp; rfl)); intro gb119 hg w55 hbox hb; have n0_ := Aside0.mk (blk_below (g := gb118) (o := .cells #[.int .i64 a0_0, .int .i64 a0_1] 24 (0, 0)) (by (with_reducible repeat (first | refine blk_drewN ?_ _ | refine blk_drew ?_ | refine blk_alloc ?_ _)); exact BK118.out) hb); have n1_ := Aside0.mk (below_step (by repeat (first | (with_reducible first | exact HB.out | apply below_alloc | apply pw_below_drewN | apply below_drew1 | refine below_set ?_ GE118.out) | exact HB.out)) hb); have n2_ := Aside0.mk (hbox); have n3_ := Aside0.mk ((by rw [hg]; exact (below_size (by repeat (first | (with_reducible first | exact HB.out | apply below_alloc | apply pw_below_drewN | apply below_drew1 | refine below_set ?_ GE118.out) | exact HB.out))) : w.heap.size ≤ gb119)); have n4_ := Aside0.mk ((by rw [hg]; exact (below_size (by repeat (first | (with_reducible first | exact HB.out | apply below_alloc | apply pw_below_drewN | apply below_drew1 | refine below_set ?_ GE118.out) | exact HB.out))) : w.heap.size ≤ gb119)); have n5_ := Aside0.mk ((by rw [hg]; exact Nat.ne_of_lt (blk_lt (g := gb118) (o := .cells #[.int .i64 a0_0, .int .i64 a0_1] 24 (0, 0)) (by (with_reducible repeat (first | refine blk_drewN ?_ _ | refine blk_drew ?_ | refine blk_alloc ?_ _)); exact BK118.out)) : gb118 ≠ gb119)); have n6_ := Aside0.mk ((by rw [hg]; exact Nat.ne_of_gt (blk_lt (g := gb118) (o := .cells #[.int .i64 a0_0, .int .i64 a0_1] 24 (0, 0)) (by (with_reducible repeat (first | refine blk_drewN ?_ _ | refine blk_drew ?_ | refine blk_alloc ?_ _)); exact BK118.out)) : gb119 ≠ gb118)); clear BK118; clear HB; have BK118 := n0_; have HB := n1_; have BK119 := n2_; have GW119 := n3_; have GE119 := n4_; have NB118_119 := n5_; have NB119_118 := n6_; clear n0_ n1_ n2_ n3_ n4_ n5_ n6_; clear hb hbox hg; have hnb56 := NB118_119.out; have hnc56 := NB119_118.out; have hcz57_0 : w55.cell? ⟨gb118, 0, none⟩ = some (.int .i64 a0_0) := (blk_cell BK118.out 0).trans rfl; have hcz57_1 : w55.cell? ⟨gb118, 1, none⟩ = some (.int .i64 a0_1) := (blk_cell BK118.out 1).trans rfl; have hfz57_0 := blk_frozen BK118.out 0; have hfz57_1 := blk_frozen BK118.out 1) | ((with_reducible refine gate_callee (f := 24) rfl ?_); refine goesL_ (some 7) rfl rfl Try.func24 (by kernel_rfl) rfl #[.agg #[.int .i64 a0_0, .int .i64 a0_1]] rfl (by (try simp only [List.map_toArray, List.map_cons, List.map_nil]); first | done | rfl | (simp only [List.length_drop, List.length_take]; rfl)) ?_; (with_reducible refine (datum_Check.calls a0_0 a0_1 t120 _ A3.out).mono ?_); rintro e w58 ⟨rfl, hb⟩; refine ⟨_, rfl, ?_⟩; have n0_ := Aside0.mk (blk_below (g := gb118) (o := .cells #[.int .i64 a0_0, .int .i64 a0_1] 24 (0, 0)) (by (with_reducible repeat (first | refine blk_drewN ?_ _ | refine blk_drew ?_ | refine blk_alloc ?_ _)); exact BK118.out) hb); have n1_ := Aside0.mk (blk_below (g := gb119) (o := .cells #[.int .i64 a1_0, .bool false, .string a1_2, .string a1_3] 31 (0, 0)) (by (with_reducible repeat (first | refine blk_drewN ?_ _ | refine blk_drew ?_ | refine blk_alloc ?_ _)); exact BK119.out) hb); have n2_ := Aside0.mk (below_step (by repeat (first | (with_reducible first | exact HB.out | apply below_alloc | apply pw_below_drewN | apply below_drew1 | refine below_set ?_ GE118.out | refine below_set ?_ GE119.out) | exact HB.out)) hb); clear BK118; clear BK119; clear HB; have BK118 := n0_; have BK119 := n1_; have HB := n2_; clear n0_ n1_ n2_; (try clear hb); (try clear hb2); (try clear hk); (try clear hi); have hcz59_0 : w58.cell? ⟨gb119, 0, none⟩ = some (.int .i64 a1_0) := (blk_cell BK119.out 0).trans rfl; have hcz59_1 : w58.cell? ⟨gb119, 1, none⟩ = some (.bool false) := (blk_cell BK119.out 1).trans rfl; have hcz59_2 : w58.cell? ⟨gb119, 2, none⟩ = some (.string a1_2) := (blk_cell BK119.out 2).trans rfl; have hcz59_3 : w58.cell? ⟨gb119, 3, none⟩ = some (.string a1_3) := (blk_cell BK119.out 3).trans rfl; have hfz59_0 := blk_frozen BK119.out 0; have hfz59_1 := blk_frozen BK119.out 1; have hfz59_2 := blk_frozen BK119.out 2; have hfz59_3 := blk_frozen BK119.out 3))
            go_ret
            exact ⟨by first | rfl | (simp [errW_none, errW_some] <;> rfl) | (simp [*, errW_none, errW_some] <;> rfl), by repeat (first | (with_reducible first | exact HB.out | apply below_alloc | apply pw_below_drewN | apply below_drew1 | refine below_set ?_ GE118.out | refine below_set ?_ GE119.out) | exact HB.out)⟩
          · rw [if_neg c53] at H
            have c53b0 : decide (65536 < a1_0) = false := decide_eq_false c53
            clear c53
            obtain rfl := Option.some.inj H
            go_enter Try.func16, Try.ntmps16
            go_wp2_with (first | ((with_reducible refine gate_dst (N := 2) rfl ?_); refine box_event ?hg (N := 2) ?hd (cs := #[.int .i64 a0_0, .int .i64 a0_1]) (t := 24) ?hr ?_; (case hd => rfl); (case hg => rfl); (case hr => first | (go_simp; done) | (go_simp; rfl)); intro gb118 hg w60 hbox hb; have n0_ := Aside0.mk (below_step (by repeat (first | (with_reducible first | exact HB.out | apply below_alloc | apply pw_below_drewN | apply below_drew1) | exact HB.out)) hb); have n1_ := Aside0.mk (hbox); have n2_ := Aside0.mk ((by rw [hg]; exact (below_size (by repeat (first | (with_reducible first | exact HB.out | apply below_alloc | apply pw_below_drewN | apply below_drew1) | exact HB.out))) : w.heap.size ≤ gb118)); have n3_ := Aside0.mk ((by rw [hg]; exact (below_size (by repeat (first | (with_reducible first | exact HB.out | apply below_alloc | apply pw_below_drewN | apply below_drew1) | exact HB.out))) : w.heap.size ≤ gb118)); clear HB; have HB := n0_; have BK118 := n1_; have GW118 := n2_; have GE118 := n3_; clear n0_ n1_ n2_ n3_; clear hb hbox hg) | ((with_reducible refine gate_dst (N := 3) rfl ?_); refine box_event ?hg (N := 3) ?hd (cs := #[.int .i64 a1_0, .bool false, .string a1_2, .string a1_3]) (t := 31) ?hr ?_; (case hd => rfl); (case hg => rfl); (case hr => first | (go_simp; done) | (go_simp; rfl)); intro gb119 hg w61 hbox hb; have n0_ := Aside0.mk (blk_below (g := gb118) (o := .cells #[.int .i64 a0_0, .int .i64 a0_1] 24 (0, 0)) (by (with_reducible repeat (first | refine blk_drewN ?_ _ | refine blk_drew ?_ | refine blk_alloc ?_ _)); exact BK118.out) hb); have n1_ := Aside0.mk (below_step (by repeat (first | (with_reducible first | exact HB.out | apply below_alloc | apply pw_below_drewN | apply below_drew1 | refine below_set ?_ GE118.out) | exact HB.out)) hb); have n2_ := Aside0.mk (hbox); have n3_ := Aside0.mk ((by rw [hg]; exact (below_size (by repeat (first | (with_reducible first | exact HB.out | apply below_alloc | apply pw_below_drewN | apply below_drew1 | refine below_set ?_ GE118.out) | exact HB.out))) : w.heap.size ≤ gb119)); have n4_ := Aside0.mk ((by rw [hg]; exact (below_size (by repeat (first | (with_reducible first | exact HB.out | apply below_alloc | apply pw_below_drewN | apply below_drew1 | refine below_set ?_ GE118.out) | exact HB.out))) : w.heap.size ≤ gb119)); have n5_ := Aside0.mk ((by rw [hg]; exact Nat.ne_of_lt (blk_lt (g := gb118) (o := .cells #[.int .i64 a0_0, .int .i64 a0_1] 24 (0, 0)) (by (with_reducible repeat (first | refine blk_drewN ?_ _ | refine blk_drew ?_ | refine blk_alloc ?_ _)); exact BK118.out)) : gb118 ≠ gb119)); have n6_ := Aside0.mk ((by rw [hg]; exact Nat.ne_of_gt (blk_lt (g := gb118) (o := .cells #[.int .i64 a0_0, .int .i64 a0_1] 24 (0, 0)) (by (with_reducible repeat (first | refine blk_drewN ?_ _ | refine blk_drew ?_ | refine blk_alloc ?_ _)); exact BK118.out)) : gb119 ≠ gb118)); clear BK118; clear HB; have BK118 := n0_; have HB := n1_; have BK119 := n2_; have GW119 := n3_; have GE119 := n4_; have NB118_119 := n5_; have NB119_118 := n6_; clear n0_ n1_ n2_ n3_ n4_ n5_ n6_; clear hb hbox hg; have hnb62 := NB118_119.out; have hnc62 := NB119_118.out; have hcz63_0 : w61.cell? ⟨gb118, 0, none⟩ = some (.int .i64 a0_0) := (blk_cell BK118.out 0).trans rfl; have hcz63_1 : w61.cell? ⟨gb118, 1, none⟩ = some (.int .i64 a0_1) := (blk_cell BK118.out 1).trans rfl; have hfz63_0 := blk_frozen BK118.out 0; have hfz63_1 := blk_frozen BK118.out 1) | ((with_reducible refine gate_callee (f := 24) rfl ?_); refine goesL_ (some 7) rfl rfl Try.func24 (by kernel_rfl) rfl #[.agg #[.int .i64 a0_0, .int .i64 a0_1]] rfl (by (try simp only [List.map_toArray, List.map_cons, List.map_nil]); first | done | rfl | (simp only [List.length_drop, List.length_take]; rfl)) ?_; (with_reducible refine (datum_Check.calls a0_0 a0_1 t120 _ A3.out).mono ?_); rintro e w64 ⟨rfl, hb⟩; refine ⟨_, rfl, ?_⟩; have n0_ := Aside0.mk (blk_below (g := gb118) (o := .cells #[.int .i64 a0_0, .int .i64 a0_1] 24 (0, 0)) (by (with_reducible repeat (first | refine blk_drewN ?_ _ | refine blk_drew ?_ | refine blk_alloc ?_ _)); exact BK118.out) hb); have n1_ := Aside0.mk (blk_below (g := gb119) (o := .cells #[.int .i64 a1_0, .bool false, .string a1_2, .string a1_3] 31 (0, 0)) (by (with_reducible repeat (first | refine blk_drewN ?_ _ | refine blk_drew ?_ | refine blk_alloc ?_ _)); exact BK119.out) hb); have n2_ := Aside0.mk (below_step (by repeat (first | (with_reducible first | exact HB.out | apply below_alloc | apply pw_below_drewN | apply below_drew1 | refine below_set ?_ GE118.out | refine below_set ?_ GE119.out) | exact HB.out)) hb); clear BK118; clear BK119; clear HB; have BK118 := n0_; have BK119 := n1_; have HB := n2_; clear n0_ n1_ n2_; (try clear hb); (try clear hb2); (try clear hk); (try clear hi); have hcz65_0 : w64.cell? ⟨gb119, 0, none⟩ = some (.int .i64 a1_0) := (blk_cell BK119.out 0).trans rfl; have hcz65_1 : w64.cell? ⟨gb119, 1, none⟩ = some (.bool false) := (blk_cell BK119.out 1).trans rfl; have hcz65_2 : w64.cell? ⟨gb119, 2, none⟩ = some (.string a1_2) := (blk_cell BK119.out 2).trans rfl; have hcz65_3 : w64.cell? ⟨gb119, 3, none⟩ = some (.string a1_3) := (blk_cell BK119.out 3).trans rfl; have hfz65_0 := blk_frozen BK119.out 0; have hfz65_1 := blk_frozen BK119.out 1; have hfz65_2 := blk_frozen BK119.out 2; have hfz65_3 := blk_frozen BK119.out 3))
            go_ret
            exact ⟨by first | rfl | (simp [errW_none, errW_some] <;> rfl) | (simp [*, errW_none, errW_some] <;> rfl), by repeat (first | (with_reducible first | exact HB.out | apply below_alloc | apply pw_below_drewN | apply below_drew1 | refine below_set ?_ GE118.out | refine below_set ?_ GE119.out) | exact HB.out)⟩
      · rw [if_neg c45] at H
        have c45b0 : (!false && (a1_2.toList == ([] : List UInt8) && (a1_3.toList == ([] : List UInt8)))) = false := by simpa using c45
        have c45b9 : (a1_2.toList.isEmpty && a1_3.toList.isEmpty) = false := by simpa using c45b0
        clear c45
        obtain rfl := Option.some.inj H
        go_enter Try.func16, Try.ntmps16
        go_wp2_with (first | ((with_reducible refine gate_dst (N := 2) rfl ?_); refine box_event ?hg (N := 2) ?hd (cs := #[.int .i64 a0_0, .int .i64 a0_1]) (t := 24) ?hr ?_; (case hd => rfl); (case hg => rfl); (case hr => first | (go_simp; done) | (go_simp; rfl)); intro gb118 hg w66 hbox hb; have n0_ := Aside0.mk (below_step (by repeat (first | (with_reducible first | exact HB.out | apply below_alloc | apply pw_below_drewN | apply below_drew1) | exact HB.out)) hb); have n1_ := Aside0.mk (hbox); have n2_ := Aside0.mk ((by rw [hg]; exact (below_size (by repeat (first | (with_reducible first | exact HB.out | apply below_alloc | apply pw_below_drewN | apply below_drew1) | exact HB.out))) : w.heap.size ≤ gb118)); have n3_ := Aside0.mk ((by rw [hg]; exact (below_size (by repeat (first | (with_reducible first | exact HB.out | apply below_alloc | apply pw_below_drewN | apply below_drew1) | exact HB.out))) : w.heap.size ≤ gb118)); clear HB; have HB := n0_; have BK118 := n1_; have GW118 := n2_; have GE118 := n3_; clear n0_ n1_ n2_ n3_; clear hb hbox hg) | ((with_reducible refine gate_dst (N := 3) rfl ?_); refine box_event ?hg (N := 3) ?hd (cs := #[.int .i64 a1_0, .bool false, .string a1_2, .string a1_3]) (t := 31) ?hr ?_; (case hd => rfl); (case hg => rfl); (case hr => first | (go_simp; done) | (go_simp; rfl)); intro gb119 hg w67 hbox hb; have n0_ := Aside0.mk (blk_below (g := gb118) (o := .cells #[.int .i64 a0_0, .int .i64 a0_1] 24 (0, 0)) (by (with_reducible repeat (first | refine blk_drewN ?_ _ | refine blk_drew ?_ | refine blk_alloc ?_ _)); exact BK118.out) hb); have n1_ := Aside0.mk (below_step (by repeat (first | (with_reducible first | exact HB.out | apply below_alloc | apply pw_below_drewN | apply below_drew1 | refine below_set ?_ GE118.out) | exact HB.out)) hb); have n2_ := Aside0.mk (hbox); have n3_ := Aside0.mk ((by rw [hg]; exact (below_size (by repeat (first | (with_reducible first | exact HB.out | apply below_alloc | apply pw_below_drewN | apply below_drew1 | refine below_set ?_ GE118.out) | exact HB.out))) : w.heap.size ≤ gb119)); have n4_ := Aside0.mk ((by rw [hg]; exact (below_size (by repeat (first | (with_reducible first | exact HB.out | apply below_alloc | apply pw_below_drewN | apply below_drew1 | refine below_set ?_ GE118.out) | exact HB.out))) : w.heap.size ≤ gb119)); have n5_ := Aside0.mk ((by rw [hg]; exact Nat.ne_of_lt (blk_lt (g := gb118) (o := .cells #[.int .i64 a0_0, .int .i64 a0_1] 24 (0, 0)) (by (with_reducible repeat (first | refine blk_drewN ?_ _ | refine blk_drew ?_ | refine blk_alloc ?_ _)); exact BK118.out)) : gb118 ≠ gb119)); have n6_ := Aside0.mk ((by rw [hg]; exact Nat.ne_of_gt (blk_lt (g := gb118) (o := .cells #[.int .i64 a0_0, .int .i64 a0_1] 24 (0, 0)) (by (with_reducible repeat (first | refine blk_drewN ?_ _ | refine blk_drew ?_ | refine blk_alloc ?_ _)); exact BK118.out)) : gb119 ≠ gb118)); clear BK118; clear HB; have BK118 := n0_; have HB := n1_; have BK119 := n2_; have GW119 := n3_; have GE119 := n4_; have NB118_119 := n5_; have NB119_118 := n6_; clear n0_ n1_ n2_ n3_ n4_ n5_ n6_; clear hb hbox hg; have hnb68 := NB118_119.out; have hnc68 := NB119_118.out; have hcz69_0 : w67.cell? ⟨gb118, 0, none⟩ = some (.int .i64 a0_0) := (blk_cell BK118.out 0).trans rfl; have hcz69_1 : w67.cell? ⟨gb118, 1, none⟩ = some (.int .i64 a0_1) := (blk_cell BK118.out 1).trans rfl; have hfz69_0 := blk_frozen BK118.out 0; have hfz69_1 := blk_frozen BK118.out 1) | ((with_reducible refine gate_callee (f := 24) rfl ?_); refine goesL_ (some 7) rfl rfl Try.func24 (by kernel_rfl) rfl #[.agg #[.int .i64 a0_0, .int .i64 a0_1]] rfl (by (try simp only [List.map_toArray, List.map_cons, List.map_nil]); first | done | rfl | (simp only [List.length_drop, List.length_take]; rfl)) ?_; (with_reducible refine (datum_Check.calls a0_0 a0_1 t120 _ A3.out).mono ?_); rintro e w70 ⟨rfl, hb⟩; refine ⟨_, rfl, ?_⟩; have n0_ := Aside0.mk (blk_below (g := gb118) (o := .cells #[.int .i64 a0_0, .int .i64 a0_1] 24 (0, 0)) (by (with_reducible repeat (first | refine blk_drewN ?_ _ | refine blk_drew ?_ | refine blk_alloc ?_ _)); exact BK118.out) hb); have n1_ := Aside0.mk (blk_below (g := gb119) (o := .cells #[.int .i64 a1_0, .bool false, .string a1_2, .string a1_3] 31 (0, 0)) (by (with_reducible repeat (first | refine blk_drewN ?_ _ | refine blk_drew ?_ | refine blk_alloc ?_ _)); exact BK119.out) hb); have n2_ := Aside0.mk (below_step (by repeat (first | (with_reducible first | exact HB.out | apply below_alloc | apply pw_below_drewN | apply below_drew1 | refine below_set ?_ GE118.out | refine below_set ?_ GE119.out) | exact HB.out)) hb); clear BK118; clear BK119; clear HB; have BK118 := n0_; have BK119 := n1_; have HB := n2_; clear n0_ n1_ n2_; (try clear hb); (try clear hb2); (try clear hk); (try clear hi); have hcz71_0 : w70.cell? ⟨gb119, 0, none⟩ = some (.int .i64 a1_0) := (blk_cell BK119.out 0).trans rfl; have hcz71_1 : w70.cell? ⟨gb119, 1, none⟩ = some (.bool false) := (blk_cell BK119.out 1).trans rfl; have hcz71_2 : w70.cell? ⟨gb119, 2, none⟩ = some (.string a1_2) := (blk_cell BK119.out 2).trans rfl; have hcz71_3 : w70.cell? ⟨gb119, 3, none⟩ = some (.string a1_3) := (blk_cell BK119.out 3).trans rfl; have hfz71_0 := blk_frozen BK119.out 0; have hfz71_1 := blk_frozen BK119.out 1; have hfz71_2 := blk_frozen BK119.out 2; have hfz71_3 := blk_frozen BK119.out 3))
        go_ret
        exact ⟨by first | rfl | (simp [errW_none, errW_some] <;> rfl) | (simp [*, errW_none, errW_some] <;> rfl), by repeat (first | (with_reducible first | exact HB.out | apply below_alloc | apply pw_below_drewN | apply below_drew1 | refine below_set ?_ GE118.out | refine below_set ?_ GE119.out) | exact HB.out)⟩
  · rw [if_neg c4] at H
    have c4b0 : (t120 == 0) = false := beq_eq_false_iff_ne.mpr c4
    have c4b1 : (t120 != 0) = true := bne_iff_ne.mpr c4
    obtain rfl := Option.some.inj H
    go_enter Try.func16, Try.ntmps16
    go_wp2_with (first | ((with_reducible refine gate_dst (N := 2) rfl ?_); refine box_event ?hg (N := 2) ?hd (cs := #[.int .i64 a0_0, .int .i64 a0_1]) (t := 24) ?hr ?_; (case hd => rfl); (case hg => rfl); (case hr => first | (go_simp; done) | (go_simp; rfl)); intro gb118 hg w72 hbox hb; have n0_ := Aside0.mk (below_step (by repeat (first | (with_reducible first | exact HB.out | apply below_alloc | apply pw_below_drewN | apply below_drew1) | exact HB.out)) hb); have n1_ := Aside0.mk (hbox); have n2_ := Aside0.mk ((by rw [hg]; exact (below_size (by repeat (first | (with_reducible first | exact HB.out | apply below_alloc | apply pw_below_drewN | apply below_drew1) | exact HB.out))) : w.heap.size ≤ gb118)); have n3_ := Aside0.mk ((by rw [hg]; exact (below_size (by repeat (first | (with_reducible first | exact HB.out | apply below_alloc | apply pw_below_drewN | apply below_drew1) | exact HB.out))) : w.heap.size ≤ gb118)); clear HB; have HB := n0_; have BK118 := n1_; have GW118 := n2_; have GE118 := n3_; clear n0_ n1_ n2_ n3_; clear hb hbox hg) | ((with_reducible refine gate_dst (N := 3) rfl ?_); refine box_event ?hg (N := 3) ?hd (cs := #[.int .i64 a1_0, .bool a1_1, .string a1_2, .string a1_3]) (t := 31) ?hr ?_; (case hd => rfl); (case hg => rfl); (case hr => first | (go_simp; done) | (go_simp; rfl)); intro gb119 hg w73 hbox hb; have n0_ := Aside0.mk (blk_below (g := gb118) (o := .cells #[.int .i64 a0_0, .int .i64 a0_1] 24 (0, 0)) (by (with_reducible repeat (first | refine blk_drewN ?_ _ | refine blk_drew ?_ | refine blk_alloc ?_ _)); exact BK118.out) hb); have n1_ := Aside0.mk (below_step (by repeat (first | (with_reducible first | exact HB.out | apply below_alloc | apply pw_below_drewN | apply below_drew1 | refine below_set ?_ GE118.out) | exact HB.out)) hb); have n2_ := Aside0.mk (hbox); have n3_ := Aside0.mk ((by rw [hg]; exact (below_size (by repeat (first | (with_reducible first | exact HB.out | apply below_alloc | apply pw_below_drewN | apply below_drew1 | refine below_set ?_ GE118.out) | exact HB.out))) : w.heap.size ≤ gb119)); have n4_ := Aside0.mk ((by rw [hg]; exact (below_size (by repeat (first | (with_reducible first | exact HB.out | apply below_alloc | apply pw_below_drewN | apply below_drew1 | refine below_set ?_ GE118.out) | exact HB.out))) : w.heap.size ≤ gb119)); have n5_ := Aside0.mk ((by rw [hg]; exact Nat.ne_of_lt (blk_lt (g := gb118) (o := .cells #[.int .i64 a0_0, .int .i64 a0_1] 24 (0, 0)) (by (with_reducible repeat (first | refine blk_drewN ?_ _ | refine blk_drew ?_ | refine blk_alloc ?_ _)); exact BK118.out)) : gb118 ≠ gb119)); have n6_ := Aside0.mk ((by rw [hg]; exact Nat.ne_of_gt (blk_lt (g := gb118) (o := .cells #[.int .i64 a0_0, .int .i64 a0_1] 24 (0, 0)) (by (with_reducible repeat (first | refine blk_drewN ?_ _ | refine blk_drew ?_ | refine blk_alloc ?_ _)); exact BK118.out)) : gb119 ≠ gb118)); clear BK118; clear HB; have BK118 := n0_; have HB := n1_; have BK119 := n2_; have GW119 := n3_; have GE119 := n4_; have NB118_119 := n5_; have NB119_118 := n6_; clear n0_ n1_ n2_ n3_ n4_ n5_ n6_; clear hb hbox hg; have hnb74 := NB118_119.out; have hnc74 := NB119_118.out; have hcz75_0 : w73.cell? ⟨gb118, 0, none⟩ = some (.int .i64 a0_0) := (blk_cell BK118.out 0).trans rfl; have hcz75_1 : w73.cell? ⟨gb118, 1, none⟩ = some (.int .i64 a0_1) := (blk_cell BK118.out 1).trans rfl; have hfz75_0 := blk_frozen BK118.out 0; have hfz75_1 := blk_frozen BK118.out 1) | ((with_reducible refine gate_callee (f := 24) rfl ?_); refine goesL_ (some 7) rfl rfl Try.func24 (by kernel_rfl) rfl #[.agg #[.int .i64 a0_0, .int .i64 a0_1]] rfl (by (try simp only [List.map_toArray, List.map_cons, List.map_nil]); first | done | rfl | (simp only [List.length_drop, List.length_take]; rfl)) ?_; (with_reducible refine (datum_Check.calls a0_0 a0_1 t120 _ A3.out).mono ?_); rintro e w76 ⟨rfl, hb⟩; refine ⟨_, rfl, ?_⟩; have n0_ := Aside0.mk (blk_below (g := gb118) (o := .cells #[.int .i64 a0_0, .int .i64 a0_1] 24 (0, 0)) (by (with_reducible repeat (first | refine blk_drewN ?_ _ | refine blk_drew ?_ | refine blk_alloc ?_ _)); exact BK118.out) hb); have n1_ := Aside0.mk (blk_below (g := gb119) (o := .cells #[.int .i64 a1_0, .bool a1_1, .string a1_2, .string a1_3] 31 (0, 0)) (by (with_reducible repeat (first | refine blk_drewN ?_ _ | refine blk_drew ?_ | refine blk_alloc ?_ _)); exact BK119.out) hb); have n2_ := Aside0.mk (below_step (by repeat (first | (with_reducible first | exact HB.out | apply below_alloc | apply pw_below_drewN | apply below_drew1 | refine below_set ?_ GE118.out | refine below_set ?_ GE119.out) | exact HB.out)) hb); clear BK118; clear BK119; clear HB; have BK118 := n0_; have BK119 := n1_; have HB := n2_; clear n0_ n1_ n2_; (try clear hb); (try clear hb2); (try clear hk); (try clear hi)))
    go_ret
    exact ⟨by first | rfl | (simp [errW_none, errW_some] <;> rfl) | (simp [*, errW_none, errW_some] <;> rfl), by repeat (first | (with_reducible first | exact HB.out | apply below_alloc | apply pw_below_drewN | apply below_drew1 | refine below_set ?_ GE118.out | refine below_set ?_ GE119.out) | exact HB.out)⟩

end Go.Proofs.Ytncehlbhjoejhaa.H
end
section
-- Laid by this session's hprint.py, out of the kit's print.py and texts of the session. Not trusted: Lean checks it.
namespace Go.Proofs.Ytncehlbhjoejhaa.H
open Go.RowKit Go.Proofs.YtncehlbhjoejhaaW.PrintWords Go.Proofs.YtncehlbhjoejhaaW.PrintLast Go.Proofs.YtncehlbhjoejhaaW.PrintMore
attribute [local go_sem] max2_int min2_int max_two min_two max_three min_three max_four min_four   -- for this text's walks alone
set_option linter.unusedVariables false
set_option linter.unusedSimpArgs false

/-! ### ranges_Join: function 27 -/
def ranges_Join.l0 : Nat → List (S29) → Int → List (S31) → Int → Int → Int → Int → Option (Int × Bool × ByteArray × ByteArray × Int)
  | 0, _, _, _, _, _, _, _ => none
  | k + 1, x6, x7, x18, x19, x20, x234000, x234001 => if x20 < x19 then (if 0 ≤ x20 then (if x20 < (x18.length : Int) then ((ranges_Check.f x234000 x234001 ((rd_T31 x18 x20).f0) ((rd_T31 x18 x20).f1) ((rd_T31 x18 x20).f2) ((rd_T31 x18 x20).f3)).bind fun t242 => (if t242 = 0 then (if (rd_T31 x18 x20).f1 = true then ((ranges_ends.f x234000 x234001 ((rd_T31 x18 x20).f0) ((rd_T31 x18 x20).f1) ((rd_T31 x18 x20).f2) ((rd_T31 x18 x20).f3)).bind fun bt243 => ((some (([(⟨bt243.1, bt243.2.1, bt243.2.2.1⟩ : S29), (⟨bt243.2.2.2.1, bt243.2.2.2.2.1, bt243.2.2.2.2.2.1⟩ : S29)] : List (S29)) : List (S29))).bind fun y252 => (if x6.length + y252.length < 4398046511104 then (ranges_Join.l0 k (x6 ++ y252) (mn (wrap64 (x7 + ((rd_T31 x18 x20).f0))) 65537) x18 x19 (wrap64 (x20 + 1)) x234000 x234001) else (none)))) else (ranges_Join.l0 k x6 (mn (wrap64 (x7 + ((rd_T31 x18 x20).f0))) 65537) x18 x19 (wrap64 (x20 + 1)) x234000 x234001)) else (some (0, false, (⟨#[]⟩ : ByteArray), (⟨#[]⟩ : ByteArray), t242)))) else (none)) else (none)) else (if x7 > 65536 then (some (0, false, (⟨#[]⟩ : ByteArray), (⟨#[]⟩ : ByteArray), 320)) else ((ranges_Of.f x234000 x234001 x6 x7).bind fun bt236 => (some (bt236.1, bt236.2.1, bt236.2.2.1, bt236.2.2.2, 0))))
def ranges_Join.f (k : Nat) (a0_0 : Int) (a0_1 : Int) (l1 : List (S31)) : Option (Int × Bool × ByteArray × ByteArray × Int) := (datum_Check.f a0_0 a0_1).bind fun t235 => (if t235 = 0 then (ranges_Join.l0 k ([] : List (S29)) 0 l1 (l1.length : Int) 0 a0_0 a0_1) else (some (0, false, (⟨#[]⟩ : ByteArray), (⟨#[]⟩ : ByteArray), 2)))
set_option maxHeartbeats 8000000 in
set_option maxRecDepth 100000 in
theorem ranges_Join.calls (k : Nat) (a0_0 : Int) (a0_1 : Int) (A1 : Option Addr) (c1 : Nat) (l1 : List (S31)) (r1 : Int) (r2 : Bool) (r3 : ByteArray) (r4 : ByteArray) (r5 : Int) (w : World) (hr1 : Kd.C k31 w A1 l1.length l1) (hc1 : l1.length ≤ c1) (h : ranges_Join.f k a0_0 a0_1 l1 = some (r1, r2, r3, r4, r5)) :
    Calls Try.prog 27 #[.agg #[.int .i64 a0_0, .int .i64 a0_1], .slice A1 l1.length c1] w fun e w' => e = .returned (.tuple #[.agg #[.int .i64 r1, .bool r2, .string r3, .string r4], .int .i64 r5]) ∧ Below w.heap.size w w' := by
  have hu24 := Try.underlying24
  have hu31 := Try.underlying31
  have hu29 := Try.underlying29
  have HR1 := Aside0.mk hr1
  have HC1 := Aside0.mk hc1
  clear hr1 hc1
  have HB := Aside0.mk (Below.refl w.heap.size w)
  have H : ((datum_Check.f a0_0 a0_1).bind fun t235 => (if t235 = 0 then (ranges_Join.l0 k ([] : List (S29)) 0 l1 (l1.length : Int) 0 a0_0 a0_1) else (some (0, false, (⟨#[]⟩ : ByteArray), (⟨#[]⟩ : ByteArray), 2)))) = some (r1, r2, r3, r4, r5) := h
  clear h
  replace H := Option.bind_eq_some_iff.mp H
  obtain ⟨t235, A30, H⟩ := H
  replace H : (if t235 = 0 then (ranges_Join.l0 k ([] : List (S29)) 0 l1 (l1.length : Int) 0 a0_0 a0_1) else (some (0, false, (⟨#[]⟩ : ByteArray), (⟨#[]⟩ : ByteArray), 2))) = some (r1, r2, r3, r4, r5) := H
  have A3 := Aside0.mk A30
  clear A30
  by_cases c4 : t235 = 0
  · rw [if_pos c4] at H
    have c4b0 : (t235 == 0) = true := beq_iff_eq.mpr c4
    have c4b1 : (t235 != 0) = false := bne_eq_false_iff_eq.mpr c4
    clear c4
    have H' := Aside0.mk H
    clear H
    go_enter Try.func27, Try.ntmps27
    go_wp2_with (first | ((with_reducible refine gate_dst (N := 2) rfl ?_); refine box_event ?hg (N := 2) ?hd (cs := #[.int .i64 a0_0, .int .i64 a0_1]) (t := 24) ?hr ?_; (case hd => rfl); (case hg => rfl); (case hr => first | (go_simp; done) | (go_simp; rfl)); intro gb233 hg w5 hbox hb; have n0_ := Aside0.mk (below_step (by repeat (first | (with_reducible first | exact HB.out | apply below_alloc | apply pw_below_drewN | apply below_drew1) | exact HB.out)) hb); have n1_ := Aside0.mk (hbox); have n2_ := Aside0.mk ((by rw [hg]; exact (below_size (by repeat (first | (with_reducible first | exact HB.out | apply below_alloc | apply pw_below_drewN | apply below_drew1) | exact HB.out))) : w.heap.size ≤ gb233)); have n3_ := Aside0.mk ((by rw [hg]; exact (below_size (by repeat (first | (with_reducible first | exact HB.out | apply below_alloc | apply pw_below_drewN | apply below_drew1) | exact HB.out))) : w.heap.size ≤ gb233)); clear HB; have HB := n0_; have BK233 := n1_; have GW233 := n2_; have GE233 := n3_; clear n0_ n1_ n2_ n3_; clear hb hbox hg) | ((with_reducible refine gate_dst (N := 4) rfl ?_); refine box_event ?hg (N := 4) ?hd (cs := #[.int .i64 0, .bool false, .string (⟨#[]⟩ : ByteArray), .string (⟨#[]⟩ : ByteArray)]) (t := 31) ?hr ?_; (case hd => rfl); (case hg => rfl); (case hr => first | (go_simp; done) | (go_simp; rfl)); intro gb234 hg w6 hbox hb; have n0_ := Aside0.mk (blk_below (g := gb233) (o := .cells #[.int .i64 a0_0, .int .i64 a0_1] 24 (0, 0)) (by (with_reducible repeat (first | refine blk_drewN ?_ _ | refine blk_drew ?_ | refine blk_alloc ?_ _)); exact BK233.out) hb); have n1_ := Aside0.mk (below_step (by repeat (first | (with_reducible first | exact HB.out | apply below_alloc | apply pw_below_drewN | apply below_drew1 | refine below_set ?_ GE233.out) | exact HB.out)) hb); have n2_ := Aside0.mk (hbox); have n3_ := Aside0.mk ((by rw [hg]; exact (below_size (by repeat (first | (with_reducible first | exact HB.out | apply below_alloc | apply pw_below_drewN | apply below_drew1 | refine below_set ?_ GE233.out) | exact HB.out))) : w.heap.size ≤ gb234)); have n4_ := Aside0.mk ((by rw [hg]; exact (below_size (by repeat (first | (with_reducible first | exact HB.out | apply below_alloc | apply pw_below_drewN | apply below_drew1 | refine below_set ?_ GE233.out) | exact HB.out))) : w.heap.size ≤ gb234)); have n5_ := Aside0.mk ((by rw [hg]; exact Nat.ne_of_lt (blk_lt (g := gb233) (o := .cells #[.int .i64 a0_0, .int .i64 a0_1] 24 (0, 0)) (by (with_reducible repeat (first | refine blk_drewN ?_ _ | refine blk_drew ?_ | refine blk_alloc ?_ _)); exact BK233.out)) : gb233 ≠ gb234)); have n6_ := Aside0.mk ((by rw [hg]; exact Nat.ne_of_gt (blk_lt (g := gb233) (o := .cells #[.int .i64 a0_0, .int .i64 a0_1] 24 (0, 0)) (by (with_reducible repeat (first | refine blk_drewN ?_ _ | refine blk_drew ?_ | refine blk_alloc ?_ _)); exact BK233.out)) : gb234 ≠ gb233)); clear BK233; clear HB; have BK233 := n0_; have HB := n1_; have BK234 := n2_; have GW234 := n3_; have GE234 := n4_; have NB233_234 := n5_; have NB234_233 := n6_; clear n0_ n1_ n2_ n3_ n4_ n5_ n6_; clear hb hbox hg; have hnb7 := NB233_234.out; have hnc7 := NB234_233.out; have hcz8_0 : w6.cell? ⟨gb233, 0, none⟩ = some (.int .i64 a0_0) := (blk_cell BK233.out 0).trans rfl; have hcz8_1 : w6.cell? ⟨gb233, 1, none⟩ = some (.int .i64 a0_1) := (blk_cell BK233.out 1).trans rfl; have hfz8_0 := blk_frozen BK233.out 0; have hfz8_1 := blk_frozen BK233.out 1) | ((with_reducible refine gate_callee (f := 24) rfl ?_); refine goesL_ (some 15) rfl rfl Try.func24 (by kernel_rfl) rfl #[.agg #[.int .i64 a0_0, .int .i64 a0_1]] rfl (by (try simp only [List.map_toArray, List.map_cons, List.map_nil]); first | done | rfl | (simp only [List.length_drop, List.length_take]; rfl)) ?_; (with_reducible refine (datum_Check.calls a0_0 a0_1 t235 _ A3.out).mono ?_); rintro e w9 ⟨rfl, hb⟩; refine ⟨_, rfl, ?_⟩; have n0_ := Aside0.mk (blk_below (g := gb233) (o := .cells #[.int .i64 a0_0, .int .i64 a0_1] 24 (0, 0)) (by (with_reducible repeat (first | refine blk_drewN ?_ _ | refine blk_drew ?_ | refine blk_alloc ?_ _)); exact BK233.out) hb); have n1_ := Aside0.mk (blk_below (g := gb234) (o := .cells #[.int .i64 0, .bool false, .string (⟨#[]⟩ : ByteArray), .string (⟨#[]⟩ : ByteArray)] 31 (0, 0)) (by (with_reducible repeat (first | refine blk_drewN ?_ _ | refine blk_drew ?_ | refine blk_alloc ?_ _)); exact BK234.out) hb); have n2_ := Aside0.mk (below_step (by repeat (first | (with_reducible first | exact HB.out | apply below_alloc | apply pw_below_drewN | apply below_drew1 | refine below_set ?_ GE233.out | refine below_set ?_ GE234.out) | exact HB.out)) hb); clear BK233; clear BK234; clear HB; have BK233 := n0_; have BK234 := n1_; have HB := n2_; clear n0_ n1_ n2_; (try clear hb); (try clear hb2); (try clear hk); (try clear hi)))
    go_loopg [6, 7, 20] k (fun kq v6 v7 v20 w' => ∃ (x6_1 : List (S29)) (x7_1 : Int) (x20_1 : Int) (x235000_1 : Int) (x235001_1 : Bool) (x235002_1 : ByteArray) (x235003_1 : ByteArray), v7 = .int .i64 x7_1 ∧ v20 = .int .i64 x20_1 ∧ Aside0 (ranges_Join.l0 kq x6_1 x7_1 l1 (l1.length : Int) x20_1 a0_0 a0_1 = some (r1, r2, r3, r4, r5)) ∧ Aside0 (kq ≤ k) ∧ Aside0 (Kd.R k29 29 w' w.heap.size (fun _ => True) v6 x6_1) ∧ Aside0 (w'.heap[gb233]? = some (.cells #[.int .i64 a0_0, .int .i64 a0_1] 24 (0, 0))) ∧ Aside0 (w'.heap[gb234]? = some (.cells #[.int .i64 x235000_1, .bool x235001_1, .string x235002_1, .string x235003_1] 31 (0, 0))) ∧ Aside0 (Below w.heap.size w w'))
    case atStart => exact ⟨(([] : List (S29))), (0), (0), (0), (false), ((⟨#[]⟩ : ByteArray)), ((⟨#[]⟩ : ByteArray)), (by first | rfl | (simp; done) | (simp [*]; done)), (by first | rfl | (simp; done) | (simp [*]; done)), H', ⟨Nat.le_refl _⟩, ⟨by first | exact Kd.R_nil _ _ _ _ _ | exact Kd.N_nil _ _ _ _ _ | exact Kd.V_nil _ _ _ _ _ | exact Kd.Q_nil _ _ _ _ _ | exact Kd.S_nil _ _ _ _ _⟩, ⟨by (with_reducible repeat (first | refine blk_drewN ?_ _ | refine blk_drew ?_ | refine blk_alloc ?_ _)); exact BK233.out⟩, ⟨by (with_reducible repeat (first | refine blk_drewN ?_ _ | refine blk_drew ?_ | refine blk_alloc ?_ _)); exact BK234.out⟩, ⟨by repeat (first | (with_reducible first | exact HB.out | apply below_alloc | apply pw_below_drewN | apply below_drew1 | refine below_set ?_ GE233.out | refine below_set ?_ GE234.out) | exact HB.out)⟩⟩
    case round =>
      clear H'
      try clear c1
      try clear c2
      try clear p2
      try clear c4
      try clear c4b0
      try clear c4b1
      try clear c7
      try clear hcz8_0
      try clear hcz8_1
      try clear hfz8_0
      try clear hfz8_1
      obtain ⟨x6_1, x7_1, x20_1, x235000_1, x235001_1, x235002_1, x235003_1, rfl, rfl, HA, HK1, HO_6, BK233, BK234, HB⟩ := hrel
      cases gk with
      | zero => exact absurd HA.out (by simp [ranges_Join.l0])
      | succ k1 =>
        have H := HA.out
        clear HA
        simp only [ranges_Join.l0] at H
        by_cases c10 : x20_1 < (l1.length : Int)
        · rw [if_pos c10] at H
          have c10b0 : decide (x20_1 < (l1.length : Int)) = true := decide_eq_true c10
          clear c10
          by_cases c11 : 0 ≤ x20_1
          · rw [if_pos c11] at H
            have c11b0 : decide (0 ≤ x20_1) = true := decide_eq_true c11
            clear c11
            by_cases c12 : x20_1 < (l1.length : Int)
            · rw [if_pos c12] at H
              have c12b0 : decide (x20_1 < (l1.length : Int)) = true := decide_eq_true c12
              clear c12
              replace H := Option.bind_eq_some_iff.mp H
              obtain ⟨t242, A130, H⟩ := H
              replace H : (if t242 = 0 then (if (rd_T31 l1 x20_1).f1 = true then ((ranges_ends.f a0_0 a0_1 ((rd_T31 l1 x20_1).f0) ((rd_T31 l1 x20_1).f1) ((rd_T31 l1 x20_1).f2) ((rd_T31 l1 x20_1).f3)).bind fun bt243 => ((some (([(⟨bt243.1, bt243.2.1, bt243.2.2.1⟩ : S29), (⟨bt243.2.2.2.1, bt243.2.2.2.2.1, bt243.2.2.2.2.2.1⟩ : S29)] : List (S29)) : List (S29))).bind fun y252 => (if x6_1.length + y252.length < 4398046511104 then (ranges_Join.l0 k1 (x6_1 ++ y252) (mn (wrap64 (x7_1 + ((rd_T31 l1 x20_1).f0))) 65537) l1 (l1.length : Int) (wrap64 (x20_1 + 1)) a0_0 a0_1) else (none)))) else (ranges_Join.l0 k1 x6_1 (mn (wrap64 (x7_1 + ((rd_T31 l1 x20_1).f0))) 65537) l1 (l1.length : Int) (wrap64 (x20_1 + 1)) a0_0 a0_1)) else (some (0, false, (⟨#[]⟩ : ByteArray), (⟨#[]⟩ : ByteArray), t242))) = some (r1, r2, r3, r4, r5) := H
              have A13 := Aside0.mk A130
              clear A130
              by_cases c14 : t242 = 0
              · rw [if_pos c14] at H
                have c14b0 : (t242 == 0) = true := beq_iff_eq.mpr c14
                have c14b1 : (t242 != 0) = false := bne_eq_false_iff_eq.mpr c14
                clear c14
                obtain ⟨ji15, hji15⟩ : ∃ j_ : Int, (mn (wrap64 (x7_1 + ((rd_T31 l1 x20_1).f0))) 65537) = j_ := ⟨_, rfl⟩
                replace H : (if (rd_T31 l1 x20_1).f1 = true then ((ranges_ends.f a0_0 a0_1 ((rd_T31 l1 x20_1).f0) ((rd_T31 l1 x20_1).f1) ((rd_T31 l1 x20_1).f2) ((rd_T31 l1 x20_1).f3)).bind fun bt243 => ((some (([(⟨bt243.1, bt243.2.1, bt243.2.2.1⟩ : S29), (⟨bt243.2.2.2.1, bt243.2.2.2.2.1, bt243.2.2.2.2.2.1⟩ : S29)] : List (S29)) : List (S29))).bind fun y252 => (if x6_1.length + y252.length < 4398046511104 then (ranges_Join.l0 k1 (x6_1 ++ y252) ji15 l1 (l1.length : Int) (wrap64 (x20_1 + 1)) a0_0 a0_1) else (none)))) else (ranges_Join.l0 k1 x6_1 ji15 l1 (l1.length : Int) (wrap64 (x20_1 + 1)) a0_0 a0_1)) = some (r1, r2, r3, r4, r5) := by first | (rw [hji15] at H; exact H) | (simp only [hji15] at H ⊢; exact H)
                (try rw [hji15] at A13)
                have hji15_ : (if 65537 < (wrap64 (x7_1 + ((rd_T31 l1 x20_1).f0))) then 65537 else (wrap64 (x7_1 + ((rd_T31 l1 x20_1).f0)))) = ji15 := hji15
                obtain ⟨bq16, hbq16⟩ : ∃ b_ : Bool, b_ = ((rd_T31 l1 x20_1).f1) := ⟨_, rfl⟩
                replace H : (if bq16 = true then ((ranges_ends.f a0_0 a0_1 ((rd_T31 l1 x20_1).f0) (bq16) ((rd_T31 l1 x20_1).f2) ((rd_T31 l1 x20_1).f3)).bind fun bt243 => ((some (([(⟨bt243.1, bt243.2.1, bt243.2.2.1⟩ : S29), (⟨bt243.2.2.2.1, bt243.2.2.2.2.1, bt243.2.2.2.2.2.1⟩ : S29)] : List (S29)) : List (S29))).bind fun y252 => (if x6_1.length + y252.length < 4398046511104 then (ranges_Join.l0 k1 (x6_1 ++ y252) ji15 l1 (l1.length : Int) (wrap64 (x20_1 + 1)) a0_0 a0_1) else (none)))) else (ranges_Join.l0 k1 x6_1 ji15 l1 (l1.length : Int) (wrap64 (x20_1 + 1)) a0_0 a0_1)) = some (r1, r2, r3, r4, r5) := by rw [← hbq16] at H; exact H
                have Nbq16 := Aside0.mk hbq16
                clear hbq16
                by_cases c17 : bq16 = true
                · subst c17
                  (try rw [← Nbq16.out] at A13)   -- the truth in its place
                  (try rw [← Nbq16.out] at A18)   -- the truth in its place
                  have H1 : ((ranges_ends.f a0_0 a0_1 ((rd_T31 l1 x20_1).f0) (true) ((rd_T31 l1 x20_1).f2) ((rd_T31 l1 x20_1).f3)).bind fun bt243 => ((some (([(⟨bt243.1, bt243.2.1, bt243.2.2.1⟩ : S29), (⟨bt243.2.2.2.1, bt243.2.2.2.2.1, bt243.2.2.2.2.2.1⟩ : S29)] : List (S29)) : List (S29))).bind fun y252 => (if x6_1.length + y252.length < 4398046511104 then (ranges_Join.l0 k1 (x6_1 ++ y252) ji15 l1 (l1.length : Int) (wrap64 (x20_1 + 1)) a0_0 a0_1) else (none)))) = some (r1, r2, r3, r4, r5) := by rw [if_pos rfl] at H; exact H
                  clear H
                  have H := H1
                  clear H1
                  replace H := Option.bind_eq_some_iff.mp H
                  obtain ⟨⟨t243, t244, t245, t246, t247, t248, t249⟩, A180, H⟩ := H
                  replace H : ((some (([(⟨t243, t244, t245⟩ : S29), (⟨t246, t247, t248⟩ : S29)] : List (S29)) : List (S29))).bind fun y252 => (if x6_1.length + y252.length < 4398046511104 then (ranges_Join.l0 k1 (x6_1 ++ y252) ji15 l1 (l1.length : Int) (wrap64 (x20_1 + 1)) a0_0 a0_1) else (none))) = some (r1, r2, r3, r4, r5) := H
                  have A18 := Aside0.mk A180
                  clear A180
                  obtain ⟨y252, hy252⟩ : ∃ y_ : List (S29), y_ = (([(⟨t243, t244, t245⟩ : S29), (⟨t246, t247, t248⟩ : S29)] : List (S29))) := ⟨_, rfl⟩
                  replace H : (if x6_1.length + y252.length < 4398046511104 then (ranges_Join.l0 k1 (x6_1 ++ y252) ji15 l1 (l1.length : Int) (wrap64 (x20_1 + 1)) a0_0 a0_1) else (none)) = some (r1, r2, r3, r4, r5) := by first | (rw [hy252]; with_reducible exact H) | (have H2_ := (Option.bind_some _ _).symm.trans H; rw [hy252]; with_reducible exact H2_) | (have H2_ := (Option.bind_some _ _).symm.trans H; with_reducible exact H2_) | with_reducible exact H | (rw [hy252]; exact H) | exact H
                  have Ny252 := Aside0.mk hy252
                  clear hy252
                  by_cases c19 : x6_1.length + y252.length < 4398046511104
                  · rw [if_pos c19] at H
                    have LMc19 := Aside0.mk c19
                    clear c19
                    obtain ⟨y255, hy255⟩ : ∃ y_ : List (S29), y_ = (x6_1 ++ y252) := ⟨_, rfl⟩
                    replace H : (ranges_Join.l0 k1 y255 ji15 l1 (l1.length : Int) (wrap64 (x20_1 + 1)) a0_0 a0_1) = some (r1, r2, r3, r4, r5) := by first | (rw [hy255]; with_reducible exact H) | (have H2_ := (Option.bind_some _ _).symm.trans H; rw [hy255]; with_reducible exact H2_) | (have H2_ := (Option.bind_some _ _).symm.trans H; with_reducible exact H2_) | with_reducible exact H | (rw [hy255]; exact H) | exact H
                    have Ny255 := Aside0.mk hy255
                    clear hy255
                    have H' := Aside0.mk H
                    clear H
                    have p240 : 0 ≤ (x20_1 : Int) := of_decide_eq_true (by first | (with_reducible assumption) | assumption)
                    have q240 : x20_1 < (l1.length : Int) := of_decide_eq_true (by first | (with_reducible assumption) | assumption)
                    obtain ⟨ad240, e240, hx240_0, hx240_1, hx240_2, hx240_3⟩ := at_T31 HR1.out x20_1 p240 q240
                    (try rw [← Nbq16.out] at hx240_1)
                    (try rw [← Nbq16.out] at hw240_1)
                    cases e240
                    replace hx240_0 := (HB.out.cell (World.block_lt_of_cell? w _ hx240_0)).trans hx240_0
                    replace hx240_1 := (HB.out.cell (World.block_lt_of_cell? w _ hx240_1)).trans hx240_1
                    replace hx240_2 := (HB.out.cell (World.block_lt_of_cell? w _ hx240_2)).trans hx240_2
                    replace hx240_3 := (HB.out.cell (World.block_lt_of_cell? w _ hx240_3)).trans hx240_3
                    replace p240 := eq_true p240
                    replace q240 := eq_true q240
                    go_wp2_with (first | ((with_reducible refine gate_dst (N := 9) rfl ?_); refine box_event ?hg (N := 9) ?hd (cs := #[.int .i64 0, .bool false, .string (⟨#[]⟩ : ByteArray), .string (⟨#[]⟩ : ByteArray)]) (t := 31) ?hr ?_; (case hd => rfl); (case hg => rfl); (case hr => first | (go_simp; done) | (go_simp; rfl)); intro gb241 hg w20 hbox hb; have n0_ := Aside0.mk (Kd.R_below (by (with_reducible repeat (first | apply Kd.R_alloc | apply Kd.R_drewN | apply Kd.R_drew)); exact HO_6.out) hb); have n1_ := Aside0.mk (blk_below (g := gb233) (o := .cells #[.int .i64 a0_0, .int .i64 a0_1] 24 (0, 0)) (by (with_reducible repeat (first | refine blk_drewN ?_ _ | refine blk_drew ?_ | refine blk_alloc ?_ _)); exact BK233.out) hb); have n2_ := Aside0.mk (blk_below (g := gb234) (o := .cells #[.int .i64 x235000_1, .bool x235001_1, .string x235002_1, .string x235003_1] 31 (0, 0)) (by (with_reducible repeat (first | refine blk_drewN ?_ _ | refine blk_drew ?_ | refine blk_alloc ?_ _)); exact BK234.out) hb); have n3_ := Aside0.mk (below_step (by repeat (first | (with_reducible first | exact HB.out | apply below_alloc | apply pw_below_drewN | apply below_drew1 | refine below_set ?_ GE233.out | refine below_set ?_ GE234.out) | exact HB.out)) hb); have n4_ := Aside0.mk (hbox); have n5_ := Aside0.mk ((by rw [hg]; exact (below_size (by repeat (first | (with_reducible first | exact HB.out | apply below_alloc | apply pw_below_drewN | apply below_drew1 | refine below_set ?_ GE233.out | refine below_set ?_ GE234.out) | exact HB.out))) : w.heap.size ≤ gb241)); have n6_ := Aside0.mk ((by rw [hg]; exact (below_size (by repeat (first | (with_reducible first | exact HB.out | apply below_alloc | apply pw_below_drewN | apply below_drew1 | refine below_set ?_ GE233.out | refine below_set ?_ GE234.out) | exact HB.out))) : w.heap.size ≤ gb241)); have n7_ := Aside0.mk ((by rw [hg]; exact Nat.ne_of_lt (blk_lt (g := gb233) (o := .cells #[.int .i64 a0_0, .int .i64 a0_1] 24 (0, 0)) (by (with_reducible repeat (first | refine blk_drewN ?_ _ | refine blk_drew ?_ | refine blk_alloc ?_ _)); exact BK233.out)) : gb233 ≠ gb241)); have n8_ := Aside0.mk ((by rw [hg]; exact Nat.ne_of_gt (blk_lt (g := gb233) (o := .cells #[.int .i64 a0_0, .int .i64 a0_1] 24 (0, 0)) (by (with_reducible repeat (first | refine blk_drewN ?_ _ | refine blk_drew ?_ | refine blk_alloc ?_ _)); exact BK233.out)) : gb241 ≠ gb233)); have n9_ := Aside0.mk ((by rw [hg]; exact Nat.ne_of_lt (blk_lt (g := gb234) (o := .cells #[.int .i64 x235000_1, .bool x235001_1, .string x235002_1, .string x235003_1] 31 (0, 0)) (by (with_reducible repeat (first | refine blk_drewN ?_ _ | refine blk_drew ?_ | refine blk_alloc ?_ _)); exact BK234.out)) : gb234 ≠ gb241)); have n10_ := Aside0.mk ((by rw [hg]; exact Nat.ne_of_gt (blk_lt (g := gb234) (o := .cells #[.int .i64 x235000_1, .bool x235001_1, .string x235002_1, .string x235003_1] 31 (0, 0)) (by (with_reducible repeat (first | refine blk_drewN ?_ _ | refine blk_drew ?_ | refine blk_alloc ?_ _)); exact BK234.out)) : gb241 ≠ gb234)); clear HO_6; clear BK233; clear BK234; clear HB; have HO_6 := n0_; have BK233 := n1_; have BK234 := n2_; have HB := n3_; have BK241 := n4_; have GW241 := n5_; have GE241 := n6_; have NB233_241 := n7_; have NB241_233 := n8_; have NB234_241 := n9_; have NB241_234 := n10_; clear n0_ n1_ n2_ n3_ n4_ n5_ n6_ n7_ n8_ n9_ n10_; clear hb hbox hg; have hnb21 := NB241_233.out; have hnc21 := NB233_241.out; have hnb22 := NB241_234.out; have hnc22 := NB234_241.out; have hcz23_0 : w20.cell? ⟨gb241, 0, none⟩ = some (.int .i64 0) := (blk_cell BK241.out 0).trans rfl; have hcz23_1 : w20.cell? ⟨gb241, 1, none⟩ = some (.bool false) := (blk_cell BK241.out 1).trans rfl; have hcz23_2 : w20.cell? ⟨gb241, 2, none⟩ = some (.string (⟨#[]⟩ : ByteArray)) := (blk_cell BK241.out 2).trans rfl; have hcz23_3 : w20.cell? ⟨gb241, 3, none⟩ = some (.string (⟨#[]⟩ : ByteArray)) := (blk_cell BK241.out 3).trans rfl; have hfz23_0 := blk_frozen BK241.out 0; have hfz23_1 := blk_frozen BK241.out 1; have hfz23_2 := blk_frozen BK241.out 2; have hfz23_3 := blk_frozen BK241.out 3; have hnb24 := NB233_234.out; have hnc24 := NB234_233.out; have hcz25_0 : w20.cell? ⟨gb233, 0, none⟩ = some (.int .i64 a0_0) := (blk_cell BK233.out 0).trans rfl; have hcz25_1 : w20.cell? ⟨gb233, 1, none⟩ = some (.int .i64 a0_1) := (blk_cell BK233.out 1).trans rfl; have hfz25_0 := blk_frozen BK233.out 0; have hfz25_1 := blk_frozen BK233.out 1) | ((with_reducible refine gate_callee (f := 16) rfl ?_); refine goesL_ (some 26) rfl rfl Try.func16 (by kernel_rfl) rfl #[.agg #[.int .i64 a0_0, .int .i64 a0_1], .agg #[.int .i64 ((rd_T31 l1 x20_1).f0), .bool true, .string ((rd_T31 l1 x20_1).f2), .string ((rd_T31 l1 x20_1).f3)]] rfl (by (try simp only [List.map_toArray, List.map_cons, List.map_nil]); first | done | rfl | (simp only [List.length_drop, List.length_take]; rfl)) ?_; (with_reducible refine (ranges_Check.calls a0_0 a0_1 ((rd_T31 l1 x20_1).f0) true ((rd_T31 l1 x20_1).f2) ((rd_T31 l1 x20_1).f3) t242 _ A13.out).mono ?_); rintro e w26 ⟨rfl, hb⟩; refine ⟨_, rfl, ?_⟩; have n0_ := Aside0.mk (Kd.R_below (by (with_reducible repeat (first | apply Kd.R_alloc | apply Kd.R_drewN | apply Kd.R_drew)); exact (Kd.R_mono (Kd.R_far (p := ⟨gb241, 3, none⟩) (Kd.R_far (p := ⟨gb241, 2, none⟩) (Kd.R_far (p := ⟨gb241, 1, none⟩) (Kd.R_far (p := ⟨gb241, 0, none⟩) (Kd.R_types HO_6.out BK241.out (by decide)) (fun _ hk => hk.2) (.int .i64 ((rd_T31 l1 x20_1).f0))) (fun _ hk => hk.2) (.bool true)) (fun _ hk => hk.2) (.string ((rd_T31 l1 x20_1).f2))) (fun _ hk => hk.2) (.string ((rd_T31 l1 x20_1).f3))) (fun _ h_ => h_.1))) hb); have n1_ := Aside0.mk (blk_below (g := gb233) (o := .cells #[.int .i64 a0_0, .int .i64 a0_1] 24 (0, 0)) (by (with_reducible repeat (first | refine blk_drewN ?_ _ | refine blk_drew ?_ | refine blk_alloc ?_ _)); refine blk_far ?_ NB233_241.out _; (with_reducible repeat (first | refine blk_drewN ?_ _ | refine blk_drew ?_ | refine blk_alloc ?_ _)); refine blk_far ?_ NB233_241.out _; (with_reducible repeat (first | refine blk_drewN ?_ _ | refine blk_drew ?_ | refine blk_alloc ?_ _)); refine blk_far ?_ NB233_241.out _; (with_reducible repeat (first | refine blk_drewN ?_ _ | refine blk_drew ?_ | refine blk_alloc ?_ _)); refine blk_far ?_ NB233_241.out _; (with_reducible repeat (first | refine blk_drewN ?_ _ | refine blk_drew ?_ | refine blk_alloc ?_ _)); exact BK233.out) hb); have n2_ := Aside0.mk (blk_below (g := gb234) (o := .cells #[.int .i64 x235000_1, .bool x235001_1, .string x235002_1, .string x235003_1] 31 (0, 0)) (by (with_reducible repeat (first | refine blk_drewN ?_ _ | refine blk_drew ?_ | refine blk_alloc ?_ _)); refine blk_far ?_ NB234_241.out _; (with_reducible repeat (first | refine blk_drewN ?_ _ | refine blk_drew ?_ | refine blk_alloc ?_ _)); refine blk_far ?_ NB234_241.out _; (with_reducible repeat (first | refine blk_drewN ?_ _ | refine blk_drew ?_ | refine blk_alloc ?_ _)); refine blk_far ?_ NB234_241.out _; (with_reducible repeat (first | refine blk_drewN ?_ _ | refine blk_drew ?_ | refine blk_alloc ?_ _)); refine blk_far ?_ NB234_241.out _; (with_reducible repeat (first | refine blk_drewN ?_ _ | refine blk_drew ?_ | refine blk_alloc ?_ _)); exact BK234.out) hb); have n3_ := Aside0.mk (blk_below (g := gb241) (o := .cells #[.int .i64 ((rd_T31 l1 x20_1).f0), .bool true, .string ((rd_T31 l1 x20_1).f2), .string ((rd_T31 l1 x20_1).f3)] 31 (0, 0)) (by (with_reducible repeat (first | refine blk_drewN ?_ _ | refine blk_drew ?_ | refine blk_alloc ?_ _)); refine blk_put (cs := #[.int .i64 ((rd_T31 l1 x20_1).f0), .bool true, .string ((rd_T31 l1 x20_1).f2), .string (⟨#[]⟩ : ByteArray)]) ?_ 3 _ rfl; (with_reducible repeat (first | refine blk_drewN ?_ _ | refine blk_drew ?_ | refine blk_alloc ?_ _)); refine blk_put (cs := #[.int .i64 ((rd_T31 l1 x20_1).f0), .bool true, .string (⟨#[]⟩ : ByteArray), .string (⟨#[]⟩ : ByteArray)]) ?_ 2 _ rfl; (with_reducible repeat (first | refine blk_drewN ?_ _ | refine blk_drew ?_ | refine blk_alloc ?_ _)); refine blk_put (cs := #[.int .i64 ((rd_T31 l1 x20_1).f0), .bool false, .string (⟨#[]⟩ : ByteArray), .string (⟨#[]⟩ : ByteArray)]) ?_ 1 _ rfl; (with_reducible repeat (first | refine blk_drewN ?_ _ | refine blk_drew ?_ | refine blk_alloc ?_ _)); refine blk_put (cs := #[.int .i64 0, .bool false, .string (⟨#[]⟩ : ByteArray), .string (⟨#[]⟩ : ByteArray)]) ?_ 0 _ rfl; (with_reducible repeat (first | refine blk_drewN ?_ _ | refine blk_drew ?_ | refine blk_alloc ?_ _)); exact BK241.out) hb); have n4_ := Aside0.mk (below_step (by repeat (first | (with_reducible first | exact HB.out | apply below_alloc | apply pw_below_drewN | apply below_drew1 | refine below_set ?_ GE233.out | refine below_set ?_ GE234.out | refine below_set ?_ GE241.out) | exact HB.out)) hb); clear HO_6; clear BK233; clear BK234; clear BK241; clear HB; have HO_6 := n0_; have BK233 := n1_; have BK234 := n2_; have BK241 := n3_; have HB := n4_; clear n0_ n1_ n2_ n3_ n4_; (try clear hb); (try clear hb2); (try clear hk); (try clear hi); have hcz27_0 : w26.cell? ⟨gb241, 0, none⟩ = some (.int .i64 ((rd_T31 l1 x20_1).f0)) := (blk_cell BK241.out 0).trans rfl; have hcz27_1 : w26.cell? ⟨gb241, 1, none⟩ = some (.bool true) := (blk_cell BK241.out 1).trans rfl; have hcz27_2 : w26.cell? ⟨gb241, 2, none⟩ = some (.string ((rd_T31 l1 x20_1).f2)) := (blk_cell BK241.out 2).trans rfl; have hcz27_3 : w26.cell? ⟨gb241, 3, none⟩ = some (.string ((rd_T31 l1 x20_1).f3)) := (blk_cell BK241.out 3).trans rfl; have hfz27_0 := blk_frozen BK241.out 0; have hfz27_1 := blk_frozen BK241.out 1; have hfz27_2 := blk_frozen BK241.out 2; have hfz27_3 := blk_frozen BK241.out 3; have hcz28_0 : w26.cell? ⟨gb233, 0, none⟩ = some (.int .i64 a0_0) := (blk_cell BK233.out 0).trans rfl; have hcz28_1 : w26.cell? ⟨gb233, 1, none⟩ = some (.int .i64 a0_1) := (blk_cell BK233.out 1).trans rfl; have hfz28_0 := blk_frozen BK233.out 0; have hfz28_1 := blk_frozen BK233.out 1) | ((with_reducible refine gate_callee (f := 45) rfl ?_); refine goesL_ (some 41) rfl rfl Try.func45 (by kernel_rfl) rfl #[.agg #[.int .i64 a0_0, .int .i64 a0_1], .agg #[.int .i64 ((rd_T31 l1 x20_1).f0), .bool true, .string ((rd_T31 l1 x20_1).f2), .string ((rd_T31 l1 x20_1).f3)]] rfl (by (try simp only [List.map_toArray, List.map_cons, List.map_nil]); first | done | rfl | (simp only [List.length_drop, List.length_take]; rfl)) ?_; (with_reducible refine (ranges_ends.calls a0_0 a0_1 ((rd_T31 l1 x20_1).f0) true ((rd_T31 l1 x20_1).f2) ((rd_T31 l1 x20_1).f3) t243 t244 t245 t246 t247 t248 t249 _ A18.out).mono ?_); rintro e w29 ⟨rfl, hb⟩; refine ⟨_, rfl, ?_⟩; have n0_ := Aside0.mk (Kd.R_below (by (with_reducible repeat (first | apply Kd.R_alloc | apply Kd.R_drewN | apply Kd.R_drew)); exact HO_6.out) hb); have n1_ := Aside0.mk (blk_below (g := gb233) (o := .cells #[.int .i64 a0_0, .int .i64 a0_1] 24 (0, 0)) (by (with_reducible repeat (first | refine blk_drewN ?_ _ | refine blk_drew ?_ | refine blk_alloc ?_ _)); exact BK233.out) hb); have n2_ := Aside0.mk (blk_below (g := gb234) (o := .cells #[.int .i64 x235000_1, .bool x235001_1, .string x235002_1, .string x235003_1] 31 (0, 0)) (by (with_reducible repeat (first | refine blk_drewN ?_ _ | refine blk_drew ?_ | refine blk_alloc ?_ _)); exact BK234.out) hb); have n3_ := Aside0.mk (blk_below (g := gb241) (o := .cells #[.int .i64 ((rd_T31 l1 x20_1).f0), .bool true, .string ((rd_T31 l1 x20_1).f2), .string ((rd_T31 l1 x20_1).f3)] 31 (0, 0)) (by (with_reducible repeat (first | refine blk_drewN ?_ _ | refine blk_drew ?_ | refine blk_alloc ?_ _)); exact BK241.out) hb); have n4_ := Aside0.mk (below_step (by repeat (first | (with_reducible first | exact HB.out | apply below_alloc | apply pw_below_drewN | apply below_drew1 | refine below_set ?_ GE233.out | refine below_set ?_ GE234.out | refine below_set ?_ GE241.out) | exact HB.out)) hb); clear HO_6; clear BK233; clear BK234; clear BK241; clear HB; have HO_6 := n0_; have BK233 := n1_; have BK234 := n2_; have BK241 := n3_; have HB := n4_; clear n0_ n1_ n2_ n3_ n4_; (try clear hb); (try clear hb2); (try clear hk); (try clear hi)) | ((with_reducible refine gate_dst (N := 11) rfl ?_); refine box_event ?hg (N := 11) ?hd (cs := #[.int .i64 0, .int .i64 0, .string (⟨#[]⟩ : ByteArray)]) (t := 29) ?hr ?_; (case hd => rfl); (case hg => rfl); (case hr => first | (go_simp; done) | (go_simp; rfl)); intro gb250 hg w30 hbox hb; have n0_ := Aside0.mk (Kd.R_below (Kd.R_elderB (by (with_reducible repeat (first | apply Kd.R_alloc | apply Kd.R_drewN | apply Kd.R_drew)); exact HO_6.out) gb250 (Nat.le_of_eq hg.symm)) hb); have n1_ := Aside0.mk (blk_below (g := gb233) (o := .cells #[.int .i64 a0_0, .int .i64 a0_1] 24 (0, 0)) (by (with_reducible repeat (first | refine blk_drewN ?_ _ | refine blk_drew ?_ | refine blk_alloc ?_ _)); exact BK233.out) hb); have n2_ := Aside0.mk (blk_below (g := gb234) (o := .cells #[.int .i64 x235000_1, .bool x235001_1, .string x235002_1, .string x235003_1] 31 (0, 0)) (by (with_reducible repeat (first | refine blk_drewN ?_ _ | refine blk_drew ?_ | refine blk_alloc ?_ _)); exact BK234.out) hb); have n3_ := Aside0.mk (blk_below (g := gb241) (o := .cells #[.int .i64 ((rd_T31 l1 x20_1).f0), .bool true, .string ((rd_T31 l1 x20_1).f2), .string ((rd_T31 l1 x20_1).f3)] 31 (0, 0)) (by (with_reducible repeat (first | refine blk_drewN ?_ _ | refine blk_drew ?_ | refine blk_alloc ?_ _)); exact BK241.out) hb); have n4_ := Aside0.mk (below_step (by repeat (first | (with_reducible first | exact HB.out | apply below_alloc | apply pw_below_drewN | apply below_drew1 | refine below_set ?_ GE233.out | refine below_set ?_ GE234.out | refine below_set ?_ GE241.out) | exact HB.out)) hb); have n5_ := Aside0.mk (hbox); have n6_ := Aside0.mk ((by rw [hg]; exact (below_size (by repeat (first | (with_reducible first | exact HB.out | apply below_alloc | apply pw_below_drewN | apply below_drew1 | refine below_set ?_ GE233.out | refine below_set ?_ GE234.out | refine below_set ?_ GE241.out) | exact HB.out))) : w.heap.size ≤ gb250)); have n7_ := Aside0.mk ((by rw [hg]; exact (below_size (by repeat (first | (with_reducible first | exact HB.out | apply below_alloc | apply pw_below_drewN | apply below_drew1 | refine below_set ?_ GE233.out | refine below_set ?_ GE234.out | refine below_set ?_ GE241.out) | exact HB.out))) : w.heap.size ≤ gb250)); have n8_ := Aside0.mk ((by rw [hg]; exact Nat.ne_of_lt (blk_lt (g := gb233) (o := .cells #[.int .i64 a0_0, .int .i64 a0_1] 24 (0, 0)) (by (with_reducible repeat (first | refine blk_drewN ?_ _ | refine blk_drew ?_ | refine blk_alloc ?_ _)); exact BK233.out)) : gb233 ≠ gb250)); have n9_ := Aside0.mk ((by rw [hg]; exact Nat.ne_of_gt (blk_lt (g := gb233) (o := .cells #[.int .i64 a0_0, .int .i64 a0_1] 24 (0, 0)) (by (with_reducible repeat (first | refine blk_drewN ?_ _ | refine blk_drew ?_ | refine blk_alloc ?_ _)); exact BK233.out)) : gb250 ≠ gb233)); have n10_ := Aside0.mk ((by rw [hg]; exact Nat.ne_of_lt (blk_lt (g := gb234) (o := .cells #[.int .i64 x235000_1, .bool x235001_1, .string x235002_1, .string x235003_1] 31 (0, 0)) (by (with_reducible repeat (first | refine blk_drewN ?_ _ | refine blk_drew ?_ | refine blk_alloc ?_ _)); exact BK234.out)) : gb234 ≠ gb250)); have n11_ := Aside0.mk ((by rw [hg]; exact Nat.ne_of_gt (blk_lt (g := gb234) (o := .cells #[.int .i64 x235000_1, .bool x235001_1, .string x235002_1, .string x235003_1] 31 (0, 0)) (by (with_reducible repeat (first | refine blk_drewN ?_ _ | refine blk_drew ?_ | refine blk_alloc ?_ _)); exact BK234.out)) : gb250 ≠ gb234)); have n12_ := Aside0.mk ((by rw [hg]; exact Nat.ne_of_lt (blk_lt (g := gb241) (o := .cells #[.int .i64 ((rd_T31 l1 x20_1).f0), .bool true, .string ((rd_T31 l1 x20_1).f2), .string ((rd_T31 l1 x20_1).f3)] 31 (0, 0)) (by (with_reducible repeat (first | refine blk_drewN ?_ _ | refine blk_drew ?_ | refine blk_alloc ?_ _)); exact BK241.out)) : gb241 ≠ gb250)); have n13_ := Aside0.mk ((by rw [hg]; exact Nat.ne_of_gt (blk_lt (g := gb241) (o := .cells #[.int .i64 ((rd_T31 l1 x20_1).f0), .bool true, .string ((rd_T31 l1 x20_1).f2), .string ((rd_T31 l1 x20_1).f3)] 31 (0, 0)) (by (with_reducible repeat (first | refine blk_drewN ?_ _ | refine blk_drew ?_ | refine blk_alloc ?_ _)); exact BK241.out)) : gb250 ≠ gb241)); clear HO_6; clear BK233; clear BK234; clear BK241; clear HB; have HO_6 := n0_; have BK233 := n1_; have BK234 := n2_; have BK241 := n3_; have HB := n4_; have BK250 := n5_; have GW250 := n6_; have GE250 := n7_; have NB233_250 := n8_; have NB250_233 := n9_; have NB234_250 := n10_; have NB250_234 := n11_; have NB241_250 := n12_; have NB250_241 := n13_; clear n0_ n1_ n2_ n3_ n4_ n5_ n6_ n7_ n8_ n9_ n10_ n11_ n12_ n13_; clear hb hbox hg) | ((with_reducible refine gate_dst (N := 12) rfl ?_); refine box_event ?hg (N := 12) ?hd (cs := #[.int .i64 0, .int .i64 0, .string (⟨#[]⟩ : ByteArray)]) (t := 29) ?hr ?_; (case hd => rfl); (case hg => rfl); (case hr => first | (go_simp; done) | (go_simp; rfl)); intro gb251 hg w31 hbox hb; have n0_ := Aside0.mk (Kd.R_below (Kd.R_elderB (by (with_reducible repeat (first | apply Kd.R_alloc | apply Kd.R_drewN | apply Kd.R_drew)); exact HO_6.out) gb251 (Nat.le_of_eq hg.symm)) hb); have n1_ := Aside0.mk (blk_below (g := gb233) (o := .cells #[.int .i64 a0_0, .int .i64 a0_1] 24 (0, 0)) (by (with_reducible repeat (first | refine blk_drewN ?_ _ | refine blk_drew ?_ | refine blk_alloc ?_ _)); exact BK233.out) hb); have n2_ := Aside0.mk (blk_below (g := gb234) (o := .cells #[.int .i64 x235000_1, .bool x235001_1, .string x235002_1, .string x235003_1] 31 (0, 0)) (by (with_reducible repeat (first | refine blk_drewN ?_ _ | refine blk_drew ?_ | refine blk_alloc ?_ _)); exact BK234.out) hb); have n3_ := Aside0.mk (blk_below (g := gb241) (o := .cells #[.int .i64 ((rd_T31 l1 x20_1).f0), .bool true, .string ((rd_T31 l1 x20_1).f2), .string ((rd_T31 l1 x20_1).f3)] 31 (0, 0)) (by (with_reducible repeat (first | refine blk_drewN ?_ _ | refine blk_drew ?_ | refine blk_alloc ?_ _)); exact BK241.out) hb); have n4_ := Aside0.mk (blk_below (g := gb250) (o := .cells #[.int .i64 0, .int .i64 0, .string (⟨#[]⟩ : ByteArray)] 29 (0, 0)) (by (with_reducible repeat (first | refine blk_drewN ?_ _ | refine blk_drew ?_ | refine blk_alloc ?_ _)); exact BK250.out) hb); have n5_ := Aside0.mk (below_step (by repeat (first | (with_reducible first | exact HB.out | apply below_alloc | apply pw_below_drewN | apply below_drew1 | refine below_set ?_ GE233.out | refine below_set ?_ GE234.out | refine below_set ?_ GE241.out | refine below_set ?_ GE250.out) | exact HB.out)) hb); have n6_ := Aside0.mk (hbox); have n7_ := Aside0.mk ((by rw [hg]; exact (below_size (by repeat (first | (with_reducible first | exact HB.out | apply below_alloc | apply pw_below_drewN | apply below_drew1 | refine below_set ?_ GE233.out | refine below_set ?_ GE234.out | refine below_set ?_ GE241.out | refine below_set ?_ GE250.out) | exact HB.out))) : w.heap.size ≤ gb251)); have n8_ := Aside0.mk ((by rw [hg]; exact (below_size (by repeat (first | (with_reducible first | exact HB.out | apply below_alloc | apply pw_below_drewN | apply below_drew1 | refine below_set ?_ GE233.out | refine below_set ?_ GE234.out | refine below_set ?_ GE241.out | refine below_set ?_ GE250.out) | exact HB.out))) : w.heap.size ≤ gb251)); have n9_ := Aside0.mk ((by rw [hg]; exact Nat.ne_of_lt (blk_lt (g := gb233) (o := .cells #[.int .i64 a0_0, .int .i64 a0_1] 24 (0, 0)) (by (with_reducible repeat (first | refine blk_drewN ?_ _ | refine blk_drew ?_ | refine blk_alloc ?_ _)); exact BK233.out)) : gb233 ≠ gb251)); have n10_ := Aside0.mk ((by rw [hg]; exact Nat.ne_of_gt (blk_lt (g := gb233) (o := .cells #[.int .i64 a0_0, .int .i64 a0_1] 24 (0, 0)) (by (with_reducible repeat (first | refine blk_drewN ?_ _ | refine blk_drew ?_ | refine blk_alloc ?_ _)); exact BK233.out)) : gb251 ≠ gb233)); have n11_ := Aside0.mk ((by rw [hg]; exact Nat.ne_of_lt (blk_lt (g := gb234) (o := .cells #[.int .i64 x235000_1, .bool x235001_1, .string x235002_1, .string x235003_1] 31 (0, 0)) (by (with_reducible repeat (first | refine blk_drewN ?_ _ | refine blk_drew ?_ | refine blk_alloc ?_ _)); exact BK234.out)) : gb234 ≠ gb251)); have n12_ := Aside0.mk ((by rw [hg]; exact Nat.ne_of_gt (blk_lt (g := gb234) (o := .cells #[.int .i64 x235000_1, .bool x235001_1, .string x235002_1, .string x235003_1] 31 (0, 0)) (by (with_reducible repeat (first | refine blk_drewN ?_ _ | refine blk_drew ?_ | refine blk_alloc ?_ _)); exact BK234.out)) : gb251 ≠ gb234)); have n13_ := Aside0.mk ((by rw [hg]; exact Nat.ne_of_lt (blk_lt (g := gb241) (o := .cells #[.int .i64 ((rd_T31 l1 x20_1).f0), .bool true, .string ((rd_T31 l1 x20_1).f2), .string ((rd_T31 l1 x20_1).f3)] 31 (0, 0)) (by (with_reducible repeat (first | refine blk_drewN ?_ _ | refine blk_drew ?_ | refine blk_alloc ?_ _)); exact BK241.out)) : gb241 ≠ gb251)); have n14_ := Aside0.mk ((by rw [hg]; exact Nat.ne_of_gt (blk_lt (g := gb241) (o := .cells #[.int .i64 ((rd_T31 l1 x20_1).f0), .bool true, .string ((rd_T31 l1 x20_1).f2), .string ((rd_T31 l1 x20_1).f3)] 31 (0, 0)) (by (with_reducible repeat (first | refine blk_drewN ?_ _ | refine blk_drew ?_ | refine blk_alloc ?_ _)); exact BK241.out)) : gb251 ≠ gb241)); have n15_ := Aside0.mk ((by rw [hg]; exact Nat.ne_of_lt (blk_lt (g := gb250) (o := .cells #[.int .i64 0, .int .i64 0, .string (⟨#[]⟩ : ByteArray)] 29 (0, 0)) (by (with_reducible repeat (first | refine blk_drewN ?_ _ | refine blk_drew ?_ | refine blk_alloc ?_ _)); exact BK250.out)) : gb250 ≠ gb251)); have n16_ := Aside0.mk ((by rw [hg]; exact Nat.ne_of_gt (blk_lt (g := gb250) (o := .cells #[.int .i64 0, .int .i64 0, .string (⟨#[]⟩ : ByteArray)] 29 (0, 0)) (by (with_reducible repeat (first | refine blk_drewN ?_ _ | refine blk_drew ?_ | refine blk_alloc ?_ _)); exact BK250.out)) : gb251 ≠ gb250)); clear HO_6; clear BK233; clear BK234; clear BK241; clear BK250; clear HB; have HO_6 := n0_; have BK233 := n1_; have BK234 := n2_; have BK241 := n3_; have BK250 := n4_; have HB := n5_; have BK251 := n6_; have GW251 := n7_; have GE251 := n8_; have NB233_251 := n9_; have NB251_233 := n10_; have NB234_251 := n11_; have NB251_234 := n12_; have NB241_251 := n13_; have NB251_241 := n14_; have NB250_251 := n15_; have NB251_250 := n16_; clear n0_ n1_ n2_ n3_ n4_ n5_ n6_ n7_ n8_ n9_ n10_ n11_ n12_ n13_ n14_ n15_ n16_; clear hb hbox hg; have hnb32 := NB250_233.out; have hnc32 := NB233_250.out; have hnb33 := NB250_234.out; have hnc33 := NB234_250.out; have hnb34 := NB250_241.out; have hnc34 := NB241_250.out; have hnb35 := NB250_251.out; have hnc35 := NB251_250.out; have hcz36_0 : w31.cell? ⟨gb250, 0, none⟩ = some (.int .i64 0) := (blk_cell BK250.out 0).trans rfl; have hcz36_1 : w31.cell? ⟨gb250, 1, none⟩ = some (.int .i64 0) := (blk_cell BK250.out 1).trans rfl; have hcz36_2 : w31.cell? ⟨gb250, 2, none⟩ = some (.string (⟨#[]⟩ : ByteArray)) := (blk_cell BK250.out 2).trans rfl; have hfz36_0 := blk_frozen BK250.out 0; have hfz36_1 := blk_frozen BK250.out 1; have hfz36_2 := blk_frozen BK250.out 2; have hnb37 := NB251_233.out; have hnc37 := NB233_251.out; have hnb38 := NB251_234.out; have hnc38 := NB234_251.out; have hnb39 := NB251_241.out; have hnc39 := NB241_251.out; have hcz40_0 : w31.cell? ⟨gb251, 0, none⟩ = some (.int .i64 0) := (blk_cell BK251.out 0).trans rfl; have hcz40_1 : w31.cell? ⟨gb251, 1, none⟩ = some (.int .i64 0) := (blk_cell BK251.out 1).trans rfl; have hcz40_2 : w31.cell? ⟨gb251, 2, none⟩ = some (.string (⟨#[]⟩ : ByteArray)) := (blk_cell BK251.out 2).trans rfl; have hfz40_0 := blk_frozen BK251.out 0; have hfz40_1 := blk_frozen BK251.out 1; have hfz40_2 := blk_frozen BK251.out 2) | ((with_reducible refine gate_dst (N := 48) rfl ?_); refine Kd.R_lit k29 _ 29 ?hg (N := 48) ?hd (xs := ([(⟨t243, t244, t245⟩ : S29), (⟨t246, t247, t248⟩ : S29)] : List (S29))) (inner := [.int .i64 t243, .int .i64 t244, .string t245, .int .i64 t246, .int .i64 t247, .string t248]) (ok := fun _ => True) (okp := fun _ => True) ?hr ?hp (fun _ hk => hk) trivial (Below.refl _ _) (Nat.le_refl _) (by simp) ?_; (case hd => rfl); (case hg => rfl); (case hr => first | (go_simp; done) | (go_simp; rfl)); (case hp => exact (Reps.c3 (show Kd.M k29 _ _ _ (⟨t243, t244, t245⟩ : S29) [.int .i64 t243, .int .i64 t244, .string t245] from (k29_mkM _ _ _ (⟨t243, t244, t245⟩ : S29) )) (Reps.c3 (show Kd.M k29 _ _ _ (⟨t246, t247, t248⟩ : S29) [.int .i64 t246, .int .i64 t247, .string t248] from (k29_mkM _ _ _ (⟨t246, t247, t248⟩ : S29) )) (Reps.none _ _)))); intro v253 w41 ho42 hb hg_ hnew_; clear hg_ hnew_; (first | rw [← Ny252.out] at ho42 | (simp only [Int.reduceToNat] at ho42; rw [← Ny252.out] at ho42)); have n0_ := Aside0.mk (Kd.R_elder' (by (with_reducible repeat (first | apply Kd.R_alloc | apply Kd.R_drewN | apply Kd.R_drew)); exact (Kd.R_mono (Kd.R_mono (Kd.R_far (p := ⟨gb251, 2, none⟩) (Kd.R_far (p := ⟨gb251, 1, none⟩) (Kd.R_far (p := ⟨gb251, 0, none⟩) (Kd.R_far (p := ⟨gb250, 2, none⟩) (Kd.R_far (p := ⟨gb250, 1, none⟩) (Kd.R_far (p := ⟨gb250, 0, none⟩) (Kd.R_mono (Kd.R_mono HO_6.out (fun k_ hk => (⟨hk, hk.1.2⟩ : _ ∧ k_ ≠ gb250))) (fun k_ hk => (⟨hk, hk.1.2⟩ : _ ∧ k_ ≠ gb251))) (fun _ hk => hk.1.2) (.int .i64 t243)) (fun _ hk => hk.1.2) (.int .i64 t244)) (fun _ hk => hk.1.2) (.string t245)) (fun _ hk => hk.2) (.int .i64 t246)) (fun _ hk => hk.2) (.int .i64 t247)) (fun _ hk => hk.2) (.string t248)) (fun _ h_ => h_.1)) (fun _ h_ => h_.1))) (Kd.R_base ho42) hb); have n1_ := Aside0.mk (Kd.R_lower (Kd.R_newB (Kd.R_newB (Kd.R_new' ho42 (Kd.R_lt (by (with_reducible repeat (first | apply Kd.R_alloc | apply Kd.R_drewN | apply Kd.R_drew)); exact (Kd.R_mono (Kd.R_mono (Kd.R_far (p := ⟨gb251, 2, none⟩) (Kd.R_far (p := ⟨gb251, 1, none⟩) (Kd.R_far (p := ⟨gb251, 0, none⟩) (Kd.R_far (p := ⟨gb250, 2, none⟩) (Kd.R_far (p := ⟨gb250, 1, none⟩) (Kd.R_far (p := ⟨gb250, 0, none⟩) (Kd.R_mono (Kd.R_mono HO_6.out (fun k_ hk => (⟨hk, hk.1.2⟩ : _ ∧ k_ ≠ gb250))) (fun k_ hk => (⟨hk, hk.1.2⟩ : _ ∧ k_ ≠ gb251))) (fun _ hk => hk.1.2) (.int .i64 t243)) (fun _ hk => hk.1.2) (.int .i64 t244)) (fun _ hk => hk.1.2) (.string t245)) (fun _ hk => hk.2) (.int .i64 t246)) (fun _ hk => hk.2) (.int .i64 t247)) (fun _ hk => hk.2) (.string t248)) (fun _ h_ => h_.1)) (fun _ h_ => h_.1))))) (g := gb250) (o := .cells #[.int .i64 t243, .int .i64 t244, .string t245] 29 (0, 0)) (by (with_reducible repeat (first | refine blk_drewN ?_ _ | refine blk_drew ?_ | refine blk_alloc ?_ _)); refine blk_far ?_ NB250_251.out _; (with_reducible repeat (first | refine blk_drewN ?_ _ | refine blk_drew ?_ | refine blk_alloc ?_ _)); refine blk_far ?_ NB250_251.out _; (with_reducible repeat (first | refine blk_drewN ?_ _ | refine blk_drew ?_ | refine blk_alloc ?_ _)); refine blk_far ?_ NB250_251.out _; (with_reducible repeat (first | refine blk_drewN ?_ _ | refine blk_drew ?_ | refine blk_alloc ?_ _)); refine blk_put (cs := #[.int .i64 t243, .int .i64 t244, .string (⟨#[]⟩ : ByteArray)]) ?_ 2 _ rfl; (with_reducible repeat (first | refine blk_drewN ?_ _ | refine blk_drew ?_ | refine blk_alloc ?_ _)); refine blk_put (cs := #[.int .i64 t243, .int .i64 0, .string (⟨#[]⟩ : ByteArray)]) ?_ 1 _ rfl; (with_reducible repeat (first | refine blk_drewN ?_ _ | refine blk_drew ?_ | refine blk_alloc ?_ _)); refine blk_put (cs := #[.int .i64 0, .int .i64 0, .string (⟨#[]⟩ : ByteArray)]) ?_ 0 _ rfl; (with_reducible repeat (first | refine blk_drewN ?_ _ | refine blk_drew ?_ | refine blk_alloc ?_ _)); exact BK250.out)) (g := gb251) (o := .cells #[.int .i64 t246, .int .i64 t247, .string t248] 29 (0, 0)) (by (with_reducible repeat (first | refine blk_drewN ?_ _ | refine blk_drew ?_ | refine blk_alloc ?_ _)); refine blk_put (cs := #[.int .i64 t246, .int .i64 t247, .string (⟨#[]⟩ : ByteArray)]) ?_ 2 _ rfl; (with_reducible repeat (first | refine blk_drewN ?_ _ | refine blk_drew ?_ | refine blk_alloc ?_ _)); refine blk_put (cs := #[.int .i64 t246, .int .i64 0, .string (⟨#[]⟩ : ByteArray)]) ?_ 1 _ rfl; (with_reducible repeat (first | refine blk_drewN ?_ _ | refine blk_drew ?_ | refine blk_alloc ?_ _)); refine blk_put (cs := #[.int .i64 0, .int .i64 0, .string (⟨#[]⟩ : ByteArray)]) ?_ 0 _ rfl; (with_reducible repeat (first | refine blk_drewN ?_ _ | refine blk_drew ?_ | refine blk_alloc ?_ _)); refine blk_far ?_ NB251_250.out _; (with_reducible repeat (first | refine blk_drewN ?_ _ | refine blk_drew ?_ | refine blk_alloc ?_ _)); refine blk_far ?_ NB251_250.out _; (with_reducible repeat (first | refine blk_drewN ?_ _ | refine blk_drew ?_ | refine blk_alloc ?_ _)); refine blk_far ?_ NB251_250.out _; (with_reducible repeat (first | refine blk_drewN ?_ _ | refine blk_drew ?_ | refine blk_alloc ?_ _)); exact BK251.out)) (below_size (by repeat (first | (with_reducible first | exact HB.out | apply below_alloc | apply pw_below_drewN | apply below_drew1 | refine below_set ?_ GE233.out | refine below_set ?_ GE234.out | refine below_set ?_ GE241.out | refine below_set ?_ GE250.out | refine below_set ?_ GE251.out) | exact HB.out)))); have n2_ := Aside0.mk (blk_below (g := gb233) (o := .cells #[.int .i64 a0_0, .int .i64 a0_1] 24 (0, 0)) (by (with_reducible repeat (first | refine blk_drewN ?_ _ | refine blk_drew ?_ | refine blk_alloc ?_ _)); refine blk_far ?_ NB233_251.out _; (with_reducible repeat (first | refine blk_drewN ?_ _ | refine blk_drew ?_ | refine blk_alloc ?_ _)); refine blk_far ?_ NB233_251.out _; (with_reducible repeat (first | refine blk_drewN ?_ _ | refine blk_drew ?_ | refine blk_alloc ?_ _)); refine blk_far ?_ NB233_251.out _; (with_reducible repeat (first | refine blk_drewN ?_ _ | refine blk_drew ?_ | refine blk_alloc ?_ _)); refine blk_far ?_ NB233_250.out _; (with_reducible repeat (first | refine blk_drewN ?_ _ | refine blk_drew ?_ | refine blk_alloc ?_ _)); refine blk_far ?_ NB233_250.out _; (with_reducible repeat (first | refine blk_drewN ?_ _ | refine blk_drew ?_ | refine blk_alloc ?_ _)); refine blk_far ?_ NB233_250.out _; (with_reducible repeat (first | refine blk_drewN ?_ _ | refine blk_drew ?_ | refine blk_alloc ?_ _)); exact BK233.out) hb); have n3_ := Aside0.mk (blk_below (g := gb234) (o := .cells #[.int .i64 x235000_1, .bool x235001_1, .string x235002_1, .string x235003_1] 31 (0, 0)) (by (with_reducible repeat (first | refine blk_drewN ?_ _ | refine blk_drew ?_ | refine blk_alloc ?_ _)); refine blk_far ?_ NB234_251.out _; (with_reducible repeat (first | refine blk_drewN ?_ _ | refine blk_drew ?_ | refine blk_alloc ?_ _)); refine blk_far ?_ NB234_251.out _; (with_reducible repeat (first | refine blk_drewN ?_ _ | refine blk_drew ?_ | refine blk_alloc ?_ _)); refine blk_far ?_ NB234_251.out _; (with_reducible repeat (first | refine blk_drewN ?_ _ | refine blk_drew ?_ | refine blk_alloc ?_ _)); refine blk_far ?_ NB234_250.out _; (with_reducible repeat (first | refine blk_drewN ?_ _ | refine blk_drew ?_ | refine blk_alloc ?_ _)); refine blk_far ?_ NB234_250.out _; (with_reducible repeat (first | refine blk_drewN ?_ _ | refine blk_drew ?_ | refine blk_alloc ?_ _)); refine blk_far ?_ NB234_250.out _; (with_reducible repeat (first | refine blk_drewN ?_ _ | refine blk_drew ?_ | refine blk_alloc ?_ _)); exact BK234.out) hb); have n4_ := Aside0.mk (blk_below (g := gb241) (o := .cells #[.int .i64 ((rd_T31 l1 x20_1).f0), .bool true, .string ((rd_T31 l1 x20_1).f2), .string ((rd_T31 l1 x20_1).f3)] 31 (0, 0)) (by (with_reducible repeat (first | refine blk_drewN ?_ _ | refine blk_drew ?_ | refine blk_alloc ?_ _)); refine blk_far ?_ NB241_251.out _; (with_reducible repeat (first | refine blk_drewN ?_ _ | refine blk_drew ?_ | refine blk_alloc ?_ _)); refine blk_far ?_ NB241_251.out _; (with_reducible repeat (first | refine blk_drewN ?_ _ | refine blk_drew ?_ | refine blk_alloc ?_ _)); refine blk_far ?_ NB241_251.out _; (with_reducible repeat (first | refine blk_drewN ?_ _ | refine blk_drew ?_ | refine blk_alloc ?_ _)); refine blk_far ?_ NB241_250.out _; (with_reducible repeat (first | refine blk_drewN ?_ _ | refine blk_drew ?_ | refine blk_alloc ?_ _)); refine blk_far ?_ NB241_250.out _; (with_reducible repeat (first | refine blk_drewN ?_ _ | refine blk_drew ?_ | refine blk_alloc ?_ _)); refine blk_far ?_ NB241_250.out _; (with_reducible repeat (first | refine blk_drewN ?_ _ | refine blk_drew ?_ | refine blk_alloc ?_ _)); exact BK241.out) hb); have n5_ := Aside0.mk (blk_below (g := gb250) (o := .cells #[.int .i64 t243, .int .i64 t244, .string t245] 29 (0, 0)) (by (with_reducible repeat (first | refine blk_drewN ?_ _ | refine blk_drew ?_ | refine blk_alloc ?_ _)); refine blk_far ?_ NB250_251.out _; (with_reducible repeat (first | refine blk_drewN ?_ _ | refine blk_drew ?_ | refine blk_alloc ?_ _)); refine blk_far ?_ NB250_251.out _; (with_reducible repeat (first | refine blk_drewN ?_ _ | refine blk_drew ?_ | refine blk_alloc ?_ _)); refine blk_far ?_ NB250_251.out _; (with_reducible repeat (first | refine blk_drewN ?_ _ | refine blk_drew ?_ | refine blk_alloc ?_ _)); refine blk_put (cs := #[.int .i64 t243, .int .i64 t244, .string (⟨#[]⟩ : ByteArray)]) ?_ 2 _ rfl; (with_reducible repeat (first | refine blk_drewN ?_ _ | refine blk_drew ?_ | refine blk_alloc ?_ _)); refine blk_put (cs := #[.int .i64 t243, .int .i64 0, .string (⟨#[]⟩ : ByteArray)]) ?_ 1 _ rfl; (with_reducible repeat (first | refine blk_drewN ?_ _ | refine blk_drew ?_ | refine blk_alloc ?_ _)); refine blk_put (cs := #[.int .i64 0, .int .i64 0, .string (⟨#[]⟩ : ByteArray)]) ?_ 0 _ rfl; (with_reducible repeat (first | refine blk_drewN ?_ _ | refine blk_drew ?_ | refine blk_alloc ?_ _)); exact BK250.out) hb); have n6_ := Aside0.mk (blk_below (g := gb251) (o := .cells #[.int .i64 t246, .int .i64 t247, .string t248] 29 (0, 0)) (by (with_reducible repeat (first | refine blk_drewN ?_ _ | refine blk_drew ?_ | refine blk_alloc ?_ _)); refine blk_put (cs := #[.int .i64 t246, .int .i64 t247, .string (⟨#[]⟩ : ByteArray)]) ?_ 2 _ rfl; (with_reducible repeat (first | refine blk_drewN ?_ _ | refine blk_drew ?_ | refine blk_alloc ?_ _)); refine blk_put (cs := #[.int .i64 t246, .int .i64 0, .string (⟨#[]⟩ : ByteArray)]) ?_ 1 _ rfl; (with_reducible repeat (first | refine blk_drewN ?_ _ | refine blk_drew ?_ | refine blk_alloc ?_ _)); refine blk_put (cs := #[.int .i64 0, .int .i64 0, .string (⟨#[]⟩ : ByteArray)]) ?_ 0 _ rfl; (with_reducible repeat (first | refine blk_drewN ?_ _ | refine blk_drew ?_ | refine blk_alloc ?_ _)); refine blk_far ?_ NB251_250.out _; (with_reducible repeat (first | refine blk_drewN ?_ _ | refine blk_drew ?_ | refine blk_alloc ?_ _)); refine blk_far ?_ NB251_250.out _; (with_reducible repeat (first | refine blk_drewN ?_ _ | refine blk_drew ?_ | refine blk_alloc ?_ _)); refine blk_far ?_ NB251_250.out _; (with_reducible repeat (first | refine blk_drewN ?_ _ | refine blk_drew ?_ | refine blk_alloc ?_ _)); exact BK251.out) hb); have n7_ := Aside0.mk (below_step (by repeat (first | (with_reducible first | exact HB.out | apply below_alloc | apply pw_below_drewN | apply below_drew1 | refine below_set ?_ GE233.out | refine below_set ?_ GE234.out | refine below_set ?_ GE241.out | refine below_set ?_ GE250.out | refine below_set ?_ GE251.out) | exact HB.out)) hb); clear HO_6; clear BK233; clear BK234; clear BK241; clear BK250; clear BK251; clear HB; have HO_6 := n0_; have HO254 := n1_; have BK233 := n2_; have BK234 := n3_; have BK241 := n4_; have BK250 := n5_; have BK251 := n6_; have HB := n7_; clear n0_ n1_ n2_ n3_ n4_ n5_ n6_ n7_; clear hb ho42; obtain ⟨Ao44, co44, eo44⟩ := Kd.R_slice HO254.out; subst eo44) | ((with_reducible refine gate_builtin (b := .append) (xs := #[.tmp 45, .tmp 48]) rfl ?_); at_builtin; refine Kd.R_append_rows k29 (w0 := w) w.heap.size rfl (.tmp 45) (.tmp 48) 25 29 (.agg #[(.int .i64 0), (.int .i64 0), (.string ⟨#[]⟩)]) 32 rfl Try.underlying25 info29 rfl (by decide) (by omega) u6 x6_1 y252 _ _ _ (fun k_ => some k_ ≠ (.slice Ao44 y252.length co44 : Value).ownBlock ∧ k_ ≠ gb250 ∧ k_ ≠ gb251) (fun _ => False) rfl rfl ?aO ?aR (fun _ _ h => h) (fun _ h => h.elim) ?aF ?aB ?aS ?aL ?_; (case aR => repeat (first | exact (Kd.R_reads' HO254.out).2.2 | (with_reducible refine Kd.C_alloc ?_ _) | (with_reducible refine Kd.C_drewN ?_ _) | (with_reducible refine Kd.C_drew ?_))); (case aB => exact (by repeat (first | (with_reducible first | exact HB.out | apply below_alloc | apply pw_below_drewN | apply below_drew1 | refine below_set ?_ GE233.out | refine below_set ?_ GE234.out | refine below_set ?_ GE241.out | refine below_set ?_ GE250.out | refine below_set ?_ GE251.out) | exact HB.out))); (case aF => exact (fun k_ hk => ⟨Kd.fresh' (Kd.R_lt (by (with_reducible repeat (first | apply Kd.R_alloc | apply Kd.R_drewN | apply Kd.R_drew)); exact HO254.out)) k_ hk, Kd.freshB (g := gb250) (o := .cells #[.int .i64 t243, .int .i64 t244, .string t245] 29 (0, 0)) (by (with_reducible repeat (first | refine blk_drewN ?_ _ | refine blk_drew ?_ | refine blk_alloc ?_ _)); exact BK250.out) k_ hk, Kd.freshB (g := gb251) (o := .cells #[.int .i64 t246, .int .i64 t247, .string t248] 29 (0, 0)) (by (with_reducible repeat (first | refine blk_drewN ?_ _ | refine blk_drew ?_ | refine blk_alloc ?_ _)); exact BK251.out) k_ hk⟩)); (case aO => exact (by (with_reducible repeat (first | apply Kd.R_alloc | apply Kd.R_drewN | apply Kd.R_drew)); exact Kd.R_mono HO_6.out (fun _ hk => ⟨hk.2, ⟨hk.1.1.2, hk.1.2⟩⟩))); (case aS => exact (below_size (by repeat (first | (with_reducible first | exact HB.out | apply below_alloc | apply pw_below_drewN | apply below_drew1 | refine below_set ?_ GE233.out | refine below_set ?_ GE234.out | refine below_set ?_ GE241.out | refine below_set ?_ GE250.out | refine below_set ?_ GE251.out) | exact HB.out)))); (case aL => have := LMc19.out; omega); intro v256 w43 ho hb hg hat; rw [← Ny255.out] at ho; have n0_ := Aside0.mk (blk_grown (g := gb233) (o := .cells #[.int .i64 a0_0, .int .i64 a0_1] 24 (0, 0)) (by (with_reducible repeat (first | refine blk_drewN ?_ _ | refine blk_drew ?_ | refine blk_alloc ?_ _)); exact BK233.out) hg (Kd.R_ne HO_6.out BK233.out (by decide))); have n1_ := Aside0.mk (blk_grown (g := gb234) (o := .cells #[.int .i64 x235000_1, .bool x235001_1, .string x235002_1, .string x235003_1] 31 (0, 0)) (by (with_reducible repeat (first | refine blk_drewN ?_ _ | refine blk_drew ?_ | refine blk_alloc ?_ _)); exact BK234.out) hg (Kd.R_ne HO_6.out BK234.out (by decide))); have n2_ := Aside0.mk (blk_grown (g := gb241) (o := .cells #[.int .i64 ((rd_T31 l1 x20_1).f0), .bool true, .string ((rd_T31 l1 x20_1).f2), .string ((rd_T31 l1 x20_1).f3)] 31 (0, 0)) (by (with_reducible repeat (first | refine blk_drewN ?_ _ | refine blk_drew ?_ | refine blk_alloc ?_ _)); exact BK241.out) hg (Kd.R_ne HO_6.out BK241.out (by decide))); have n3_ := Aside0.mk (blk_grown (g := gb250) (o := .cells #[.int .i64 t243, .int .i64 t244, .string t245] 29 (0, 0)) (by (with_reducible repeat (first | refine blk_drewN ?_ _ | refine blk_drew ?_ | refine blk_alloc ?_ _)); exact BK250.out) hg (Kd.R_away HO_6.out (fun _ hk => hk.1.1.2))); have n4_ := Aside0.mk (blk_grown (g := gb251) (o := .cells #[.int .i64 t246, .int .i64 t247, .string t248] 29 (0, 0)) (by (with_reducible repeat (first | refine blk_drewN ?_ _ | refine blk_drew ?_ | refine blk_alloc ?_ _)); exact BK251.out) hg (Kd.R_away HO_6.out (fun _ hk => hk.1.2))); have n5_ := Aside0.mk (Kd.R_after (ok := (fun k_ => k_ ≠ gb250 ∧ k_ ≠ gb251)) (by (with_reducible repeat (first | apply Kd.R_alloc | apply Kd.R_drewN | apply Kd.R_drew)); exact Kd.R_mono HO254.out (fun _ hk => ⟨⟨hk.1.2, hk.2⟩, hk.1.1.2⟩)) hg hat); have n6_ := Aside0.mk (hb); have n7_ := Aside0.mk (ho); clear BK233; clear BK234; clear BK241; clear BK250; clear BK251; clear HO254; clear HB; clear HO_6; have BK233 := n0_; have BK234 := n1_; have BK241 := n2_; have BK250 := n3_; have BK251 := n4_; have HO254 := n5_; have HB := n6_; have HO257 := n7_; clear n0_ n1_ n2_ n3_ n4_ n5_ n6_ n7_; clear ho hb hg hat))
                    go_roundg k1
                    case measure => have := HK1.out; omega
                    case rel => exact ⟨(y255), (ji15), (wrap64 (x20_1 + 1)), (x235000_1), (x235001_1), (x235002_1), (x235003_1), (by first | rfl | (simp; done) | (simp only [← hji15] <;> (first | rfl | simp)) | (simp [*]; done)), (by first | rfl | (simp; done) | (simp [*]; done)), H', ⟨by have := HK1.out; omega⟩, ⟨by (with_reducible repeat (first | apply Kd.R_alloc | apply Kd.R_drewN | apply Kd.R_drew)); exact Kd.R_mono HO257.out (fun _ hk => trivial)⟩, ⟨by (with_reducible repeat (first | refine blk_drewN ?_ _ | refine blk_drew ?_ | refine blk_alloc ?_ _)); exact BK233.out⟩, ⟨by (with_reducible repeat (first | refine blk_drewN ?_ _ | refine blk_drew ?_ | refine blk_alloc ?_ _)); exact BK234.out⟩, ⟨by repeat (first | (with_reducible first | exact HB.out | apply below_alloc | apply pw_below_drewN | apply below_drew1 | refine below_set ?_ GE233.out | refine below_set ?_ GE234.out | refine below_set ?_ GE241.out | refine below_set ?_ GE250.out | refine below_set ?_ GE251.out) | exact HB.out)⟩⟩
                  · rw [if_neg c19] at H
                    exact absurd H (by simp)
                · replace c17 := Bool.eq_false_iff.mpr c17
                  subst c17
                  (try rw [← Nbq16.out] at A13)   -- the truth in its place
                  have H1 : (ranges_Join.l0 k1 x6_1 ji15 l1 (l1.length : Int) (wrap64 (x20_1 + 1)) a0_0 a0_1) = some (r1, r2, r3, r4, r5) := by rw [if_neg (show ¬ (false = true) by decide)] at H; exact H
                  clear H
                  have H := H1
                  clear H1
                  have H' := Aside0.mk H
                  clear H
                  have p240 : 0 ≤ (x20_1 : Int) := of_decide_eq_true (by first | (with_reducible assumption) | assumption)
                  have q240 : x20_1 < (l1.length : Int) := of_decide_eq_true (by first | (with_reducible assumption) | assumption)
                  obtain ⟨ad240, e240, hx240_0, hx240_1, hx240_2, hx240_3⟩ := at_T31 HR1.out x20_1 p240 q240
                  (try rw [← Nbq16.out] at hx240_1)
                  (try rw [← Nbq16.out] at hw240_1)
                  cases e240
                  replace hx240_0 := (HB.out.cell (World.block_lt_of_cell? w _ hx240_0)).trans hx240_0
                  replace hx240_1 := (HB.out.cell (World.block_lt_of_cell? w _ hx240_1)).trans hx240_1
                  replace hx240_2 := (HB.out.cell (World.block_lt_of_cell? w _ hx240_2)).trans hx240_2
                  replace hx240_3 := (HB.out.cell (World.block_lt_of_cell? w _ hx240_3)).trans hx240_3
                  replace p240 := eq_true p240
                  replace q240 := eq_true q240
                  go_wp2_with (first | ((with_reducible refine gate_dst (N := 9) rfl ?_); refine box_event ?hg (N := 9) ?hd (cs := #[.int .i64 0, .bool false, .string (⟨#[]⟩ : ByteArray), .string (⟨#[]⟩ : ByteArray)]) (t := 31) ?hr ?_; (case hd => rfl); (case hg => rfl); (case hr => first | (go_simp; done) | (go_simp; rfl)); intro gb241 hg w45 hbox hb; have n0_ := Aside0.mk (Kd.R_below (by (with_reducible repeat (first | apply Kd.R_alloc | apply Kd.R_drewN | apply Kd.R_drew)); exact HO_6.out) hb); have n1_ := Aside0.mk (blk_below (g := gb233) (o := .cells #[.int .i64 a0_0, .int .i64 a0_1] 24 (0, 0)) (by (with_reducible repeat (first | refine blk_drewN ?_ _ | refine blk_drew ?_ | refine blk_alloc ?_ _)); exact BK233.out) hb); have n2_ := Aside0.mk (blk_below (g := gb234) (o := .cells #[.int .i64 x235000_1, .bool x235001_1, .string x235002_1, .string x235003_1] 31 (0, 0)) (by (with_reducible repeat (first | refine blk_drewN ?_ _ | refine blk_drew ?_ | refine blk_alloc ?_ _)); exact BK234.out) hb); have n3_ := Aside0.mk (below_step (by repeat (first | (with_reducible first | exact HB.out | apply below_alloc | apply pw_below_drewN | apply below_drew1 | refine below_set ?_ GE233.out | refine below_set ?_ GE234.out) | exact HB.out)) hb); have n4_ := Aside0.mk (hbox); have n5_ := Aside0.mk ((by rw [hg]; exact (below_size (by repeat (first | (with_reducible first | exact HB.out | apply below_alloc | apply pw_below_drewN | apply below_drew1 | refine below_set ?_ GE233.out | refine below_set ?_ GE234.out) | exact HB.out))) : w.heap.size ≤ gb241)); have n6_ := Aside0.mk ((by rw [hg]; exact (below_size (by repeat (first | (with_reducible first | exact HB.out | apply below_alloc | apply pw_below_drewN | apply below_drew1 | refine below_set ?_ GE233.out | refine below_set ?_ GE234.out) | exact HB.out))) : w.heap.size ≤ gb241)); have n7_ := Aside0.mk ((by rw [hg]; exact Nat.ne_of_lt (blk_lt (g := gb233) (o := .cells #[.int .i64 a0_0, .int .i64 a0_1] 24 (0, 0)) (by (with_reducible repeat (first | refine blk_drewN ?_ _ | refine blk_drew ?_ | refine blk_alloc ?_ _)); exact BK233.out)) : gb233 ≠ gb241)); have n8_ := Aside0.mk ((by rw [hg]; exact Nat.ne_of_gt (blk_lt (g := gb233) (o := .cells #[.int .i64 a0_0, .int .i64 a0_1] 24 (0, 0)) (by (with_reducible repeat (first | refine blk_drewN ?_ _ | refine blk_drew ?_ | refine blk_alloc ?_ _)); exact BK233.out)) : gb241 ≠ gb233)); have n9_ := Aside0.mk ((by rw [hg]; exact Nat.ne_of_lt (blk_lt (g := gb234) (o := .cells #[.int .i64 x235000_1, .bool x235001_1, .string x235002_1, .string x235003_1] 31 (0, 0)) (by (with_reducible repeat (first | refine blk_drewN ?_ _ | refine blk_drew ?_ | refine blk_alloc ?_ _)); exact BK234.out)) : gb234 ≠ gb241)); have n10_ := Aside0.mk ((by rw [hg]; exact Nat.ne_of_gt (blk_lt (g := gb234) (o := .cells #[.int .i64 x235000_1, .bool x235001_1, .string x235002_1, .string x235003_1] 31 (0, 0)) (by (with_reducible repeat (first | refine blk_drewN ?_ _ | refine blk_drew ?_ | refine blk_alloc ?_ _)); exact BK234.out)) : gb241 ≠ gb234)); clear HO_6; clear BK233; clear BK234; clear HB; have HO_6 := n0_; have BK233 := n1_; have BK234 := n2_; have HB := n3_; have BK241 := n4_; have GW241 := n5_; have GE241 := n6_; have NB233_241 := n7_; have NB241_233 := n8_; have NB234_241 := n9_; have NB241_234 := n10_; clear n0_ n1_ n2_ n3_ n4_ n5_ n6_ n7_ n8_ n9_ n10_; clear hb hbox hg; have hnb46 := NB241_233.out; have hnc46 := NB233_241.out; have hnb47 := NB241_234.out; have hnc47 := NB234_241.out; have hcz48_0 : w45.cell? ⟨gb241, 0, none⟩ = some (.int .i64 0) := (blk_cell BK241.out 0).trans rfl; have hcz48_1 : w45.cell? ⟨gb241, 1, none⟩ = some (.bool false) := (blk_cell BK241.out 1).trans rfl; have hcz48_2 : w45.cell? ⟨gb241, 2, none⟩ = some (.string (⟨#[]⟩ : ByteArray)) := (blk_cell BK241.out 2).trans rfl; have hcz48_3 : w45.cell? ⟨gb241, 3, none⟩ = some (.string (⟨#[]⟩ : ByteArray)) := (blk_cell BK241.out 3).trans rfl; have hfz48_0 := blk_frozen BK241.out 0; have hfz48_1 := blk_frozen BK241.out 1; have hfz48_2 := blk_frozen BK241.out 2; have hfz48_3 := blk_frozen BK241.out 3; have hnb49 := NB233_234.out; have hnc49 := NB234_233.out; have hcz50_0 : w45.cell? ⟨gb233, 0, none⟩ = some (.int .i64 a0_0) := (blk_cell BK233.out 0).trans rfl; have hcz50_1 : w45.cell? ⟨gb233, 1, none⟩ = some (.int .i64 a0_1) := (blk_cell BK233.out 1).trans rfl; have hfz50_0 := blk_frozen BK233.out 0; have hfz50_1 := blk_frozen BK233.out 1) | ((with_reducible refine gate_callee (f := 16) rfl ?_); refine goesL_ (some 26) rfl rfl Try.func16 (by kernel_rfl) rfl #[.agg #[.int .i64 a0_0, .int .i64 a0_1], .agg #[.int .i64 ((rd_T31 l1 x20_1).f0), .bool false, .string ((rd_T31 l1 x20_1).f2), .string ((rd_T31 l1 x20_1).f3)]] rfl (by (try simp only [List.map_toArray, List.map_cons, List.map_nil]); first | done | rfl | (simp only [List.length_drop, List.length_take]; rfl)) ?_; (with_reducible refine (ranges_Check.calls a0_0 a0_1 ((rd_T31 l1 x20_1).f0) false ((rd_T31 l1 x20_1).f2) ((rd_T31 l1 x20_1).f3) t242 _ A13.out).mono ?_); rintro e w51 ⟨rfl, hb⟩; refine ⟨_, rfl, ?_⟩; have n0_ := Aside0.mk (Kd.R_below (by (with_reducible repeat (first | apply Kd.R_alloc | apply Kd.R_drewN | apply Kd.R_drew)); exact (Kd.R_mono (Kd.R_far (p := ⟨gb241, 3, none⟩) (Kd.R_far (p := ⟨gb241, 2, none⟩) (Kd.R_far (p := ⟨gb241, 1, none⟩) (Kd.R_far (p := ⟨gb241, 0, none⟩) (Kd.R_types HO_6.out BK241.out (by decide)) (fun _ hk => hk.2) (.int .i64 ((rd_T31 l1 x20_1).f0))) (fun _ hk => hk.2) (.bool false)) (fun _ hk => hk.2) (.string ((rd_T31 l1 x20_1).f2))) (fun _ hk => hk.2) (.string ((rd_T31 l1 x20_1).f3))) (fun _ h_ => h_.1))) hb); have n1_ := Aside0.mk (blk_below (g := gb233) (o := .cells #[.int .i64 a0_0, .int .i64 a0_1] 24 (0, 0)) (by (with_reducible repeat (first | refine blk_drewN ?_ _ | refine blk_drew ?_ | refine blk_alloc ?_ _)); refine blk_far ?_ NB233_241.out _; (with_reducible repeat (first | refine blk_drewN ?_ _ | refine blk_drew ?_ | refine blk_alloc ?_ _)); refine blk_far ?_ NB233_241.out _; (with_reducible repeat (first | refine blk_drewN ?_ _ | refine blk_drew ?_ | refine blk_alloc ?_ _)); refine blk_far ?_ NB233_241.out _; (with_reducible repeat (first | refine blk_drewN ?_ _ | refine blk_drew ?_ | refine blk_alloc ?_ _)); refine blk_far ?_ NB233_241.out _; (with_reducible repeat (first | refine blk_drewN ?_ _ | refine blk_drew ?_ | refine blk_alloc ?_ _)); exact BK233.out) hb); have n2_ := Aside0.mk (blk_below (g := gb234) (o := .cells #[.int .i64 x235000_1, .bool x235001_1, .string x235002_1, .string x235003_1] 31 (0, 0)) (by (with_reducible repeat (first | refine blk_drewN ?_ _ | refine blk_drew ?_ | refine blk_alloc ?_ _)); refine blk_far ?_ NB234_241.out _; (with_reducible repeat (first | refine blk_drewN ?_ _ | refine blk_drew ?_ | refine blk_alloc ?_ _)); refine blk_far ?_ NB234_241.out _; (with_reducible repeat (first | refine blk_drewN ?_ _ | refine blk_drew ?_ | refine blk_alloc ?_ _)); refine blk_far ?_ NB234_241.out _; (with_reducible repeat (first | refine blk_drewN ?_ _ | refine blk_drew ?_ | refine blk_alloc ?_ _)); refine blk_far ?_ NB234_241.out _; (with_reducible repeat (first | refine blk_drewN ?_ _ | refine blk_drew ?_ | refine blk_alloc ?_ _)); exact BK234.out) hb); have n3_ := Aside0.mk (blk_below (g := gb241) (o := .cells #[.int .i64 ((rd_T31 l1 x20_1).f0), .bool false, .string ((rd_T31 l1 x20_1).f2), .string ((rd_T31 l1 x20_1).f3)] 31 (0, 0)) (by (with_reducible repeat (first | refine blk_drewN ?_ _ | refine blk_drew ?_ | refine blk_alloc ?_ _)); refine blk_put (cs := #[.int .i64 ((rd_T31 l1 x20_1).f0), .bool false, .string ((rd_T31 l1 x20_1).f2), .string (⟨#[]⟩ : ByteArray)]) ?_ 3 _ rfl; (with_reducible repeat (first | refine blk_drewN ?_ _ | refine blk_drew ?_ | refine blk_alloc ?_ _)); refine blk_put (cs := #[.int .i64 ((rd_T31 l1 x20_1).f0), .bool false, .string (⟨#[]⟩ : ByteArray), .string (⟨#[]⟩ : ByteArray)]) ?_ 2 _ rfl; (with_reducible repeat (first | refine blk_drewN ?_ _ | refine blk_drew ?_ | refine blk_alloc ?_ _)); refine blk_put (cs := #[.int .i64 ((rd_T31 l1 x20_1).f0), .bool false, .string (⟨#[]⟩ : ByteArray), .string (⟨#[]⟩ : ByteArray)]) ?_ 1 _ rfl; (with_reducible repeat (first | refine blk_drewN ?_ _ | refine blk_drew ?_ | refine blk_alloc ?_ _)); refine blk_put (cs := #[.int .i64 0, .bool false, .string (⟨#[]⟩ : ByteArray), .string (⟨#[]⟩ : ByteArray)]) ?_ 0 _ rfl; (with_reducible repeat (first | refine blk_drewN ?_ _ | refine blk_drew ?_ | refine blk_alloc ?_ _)); exact BK241.out) hb); have n4_ := Aside0.mk (below_step (by repeat (first | (with_reducible first | exact HB.out | apply below_alloc | apply pw_below_drewN | apply below_drew1 | refine below_set ?_ GE233.out | refine below_set ?_ GE234.out | refine below_set ?_ GE241.out) | exact HB.out)) hb); clear HO_6; clear BK233; clear BK234; clear BK241; clear HB; have HO_6 := n0_; have BK233 := n1_; have BK234 := n2_; have BK241 := n3_; have HB := n4_; clear n0_ n1_ n2_ n3_ n4_; (try clear hb); (try clear hb2); (try clear hk); (try clear hi); have hcz52_0 : w51.cell? ⟨gb241, 0, none⟩ = some (.int .i64 ((rd_T31 l1 x20_1).f0)) := (blk_cell BK241.out 0).trans rfl; have hcz52_1 : w51.cell? ⟨gb241, 1, none⟩ = some (.bool false) := (blk_cell BK241.out 1).trans rfl; have hcz52_2 : w51.cell? ⟨gb241, 2, none⟩ = some (.string ((rd_T31 l1 x20_1).f2)) := (blk_cell BK241.out 2).trans rfl; have hcz52_3 : w51.cell? ⟨gb241, 3, none⟩ = some (.string ((rd_T31 l1 x20_1).f3)) := (blk_cell BK241.out 3).trans rfl; have hfz52_0 := blk_frozen BK241.out 0; have hfz52_1 := blk_frozen BK241.out 1; have hfz52_2 := blk_frozen BK241.out 2; have hfz52_3 := blk_frozen BK241.out 3))
                  go_roundg k1
                  case measure => have := HK1.out; omega
                  case rel => exact ⟨(x6_1), (ji15), (wrap64 (x20_1 + 1)), (x235000_1), (x235001_1), (x235002_1), (x235003_1), (by first | rfl | (simp; done) | (simp only [← hji15] <;> (first | rfl | simp)) | (simp [*]; done)), (by first | rfl | (simp; done) | (simp [*]; done)), H', ⟨by have := HK1.out; omega⟩, ⟨by (with_reducible repeat (first | apply Kd.R_alloc | apply Kd.R_drewN | apply Kd.R_drew)); exact HO_6.out⟩, ⟨by (with_reducible repeat (first | refine blk_drewN ?_ _ | refine blk_drew ?_ | refine blk_alloc ?_ _)); exact BK233.out⟩, ⟨by (with_reducible repeat (first | refine blk_drewN ?_ _ | refine blk_drew ?_ | refine blk_alloc ?_ _)); exact BK234.out⟩, ⟨by repeat (first | (with_reducible first | exact HB.out | apply below_alloc | apply pw_below_drewN | apply below_drew1 | refine below_set ?_ GE233.out | refine below_set ?_ GE234.out | refine below_set ?_ GE241.out) | exact HB.out)⟩⟩
              · rw [if_neg c14] at H
                have c14b0 : (t242 == 0) = false := beq_eq_false_iff_ne.mpr c14
                have c14b1 : (t242 != 0) = true := bne_iff_ne.mpr c14
                simp only [Option.some.injEq, Prod.mk.injEq] at H
                obtain ⟨rfl, rfl, rfl, rfl, rfl⟩ := H
                have p240 : 0 ≤ (x20_1 : Int) := of_decide_eq_true (by first | (with_reducible assumption) | assumption)
                have q240 : x20_1 < (l1.length : Int) := of_decide_eq_true (by first | (with_reducible assumption) | assumption)
                obtain ⟨ad240, e240, hx240_0, hx240_1, hx240_2, hx240_3⟩ := at_T31 HR1.out x20_1 p240 q240
                cases e240
                replace hx240_0 := (HB.out.cell (World.block_lt_of_cell? w _ hx240_0)).trans hx240_0
                replace hx240_1 := (HB.out.cell (World.block_lt_of_cell? w _ hx240_1)).trans hx240_1
                replace hx240_2 := (HB.out.cell (World.block_lt_of_cell? w _ hx240_2)).trans hx240_2
                replace hx240_3 := (HB.out.cell (World.block_lt_of_cell? w _ hx240_3)).trans hx240_3
                replace p240 := eq_true p240
                replace q240 := eq_true q240
                go_wp2_with (first | ((with_reducible refine gate_dst (N := 9) rfl ?_); refine box_event ?hg (N := 9) ?hd (cs := #[.int .i64 0, .bool false, .string (⟨#[]⟩ : ByteArray), .string (⟨#[]⟩ : ByteArray)]) (t := 31) ?hr ?_; (case hd => rfl); (case hg => rfl); (case hr => first | (go_simp; done) | (go_simp; rfl)); intro gb241 hg w53 hbox hb; have n0_ := Aside0.mk (Kd.R_below (by (with_reducible repeat (first | apply Kd.R_alloc | apply Kd.R_drewN | apply Kd.R_drew)); exact HO_6.out) hb); have n1_ := Aside0.mk (blk_below (g := gb233) (o := .cells #[.int .i64 a0_0, .int .i64 a0_1] 24 (0, 0)) (by (with_reducible repeat (first | refine blk_drewN ?_ _ | refine blk_drew ?_ | refine blk_alloc ?_ _)); exact BK233.out) hb); have n2_ := Aside0.mk (blk_below (g := gb234) (o := .cells #[.int .i64 x235000_1, .bool x235001_1, .string x235002_1, .string x235003_1] 31 (0, 0)) (by (with_reducible repeat (first | refine blk_drewN ?_ _ | refine blk_drew ?_ | refine blk_alloc ?_ _)); exact BK234.out) hb); have n3_ := Aside0.mk (below_step (by repeat (first | (with_reducible first | exact HB.out | apply below_alloc | apply pw_below_drewN | apply below_drew1 | refine below_set ?_ GE233.out | refine below_set ?_ GE234.out) | exact HB.out)) hb); have n4_ := Aside0.mk (hbox); have n5_ := Aside0.mk ((by rw [hg]; exact (below_size (by repeat (first | (with_reducible first | exact HB.out | apply below_alloc | apply pw_below_drewN | apply below_drew1 | refine below_set ?_ GE233.out | refine below_set ?_ GE234.out) | exact HB.out))) : w.heap.size ≤ gb241)); have n6_ := Aside0.mk ((by rw [hg]; exact (below_size (by repeat (first | (with_reducible first | exact HB.out | apply below_alloc | apply pw_below_drewN | apply below_drew1 | refine below_set ?_ GE233.out | refine below_set ?_ GE234.out) | exact HB.out))) : w.heap.size ≤ gb241)); have n7_ := Aside0.mk ((by rw [hg]; exact Nat.ne_of_lt (blk_lt (g := gb233) (o := .cells #[.int .i64 a0_0, .int .i64 a0_1] 24 (0, 0)) (by (with_reducible repeat (first | refine blk_drewN ?_ _ | refine blk_drew ?_ | refine blk_alloc ?_ _)); exact BK233.out)) : gb233 ≠ gb241)); have n8_ := Aside0.mk ((by rw [hg]; exact Nat.ne_of_gt (blk_lt (g := gb233) (o := .cells #[.int .i64 a0_0, .int .i64 a0_1] 24 (0, 0)) (by (with_reducible repeat (first | refine blk_drewN ?_ _ | refine blk_drew ?_ | refine blk_alloc ?_ _)); exact BK233.out)) : gb241 ≠ gb233)); have n9_ := Aside0.mk ((by rw [hg]; exact Nat.ne_of_lt (blk_lt (g := gb234) (o := .cells #[.int .i64 x235000_1, .bool x235001_1, .string x235002_1, .string x235003_1] 31 (0, 0)) (by (with_reducible repeat (first | refine blk_drewN ?_ _ | refine blk_drew ?_ | refine blk_alloc ?_ _)); exact BK234.out)) : gb234 ≠ gb241)); have n10_ := Aside0.mk ((by rw [hg]; exact Nat.ne_of_gt (blk_lt (g := gb234) (o := .cells #[.int .i64 x235000_1, .bool x235001_1, .string x235002_1, .string x235003_1] 31 (0, 0)) (by (with_reducible repeat (first | refine blk_drewN ?_ _ | refine blk_drew ?_ | refine blk_alloc ?_ _)); exact BK234.out)) : gb241 ≠ gb234)); clear HO_6; clear BK233; clear BK234; clear HB; have HO_6 := n0_; have BK233 := n1_; have BK234 := n2_; have HB := n3_; have BK241 := n4_; have GW241 := n5_; have GE241 := n6_; have NB233_241 := n7_; have NB241_233 := n8_; have NB234_241 := n9_; have NB241_234 := n10_; clear n0_ n1_ n2_ n3_ n4_ n5_ n6_ n7_ n8_ n9_ n10_; clear hb hbox hg; have hnb54 := NB241_233.out; have hnc54 := NB233_241.out; have hnb55 := NB241_234.out; have hnc55 := NB234_241.out; have hcz56_0 : w53.cell? ⟨gb241, 0, none⟩ = some (.int .i64 0) := (blk_cell BK241.out 0).trans rfl; have hcz56_1 : w53.cell? ⟨gb241, 1, none⟩ = some (.bool false) := (blk_cell BK241.out 1).trans rfl; have hcz56_2 : w53.cell? ⟨gb241, 2, none⟩ = some (.string (⟨#[]⟩ : ByteArray)) := (blk_cell BK241.out 2).trans rfl; have hcz56_3 : w53.cell? ⟨gb241, 3, none⟩ = some (.string (⟨#[]⟩ : ByteArray)) := (blk_cell BK241.out 3).trans rfl; have hfz56_0 := blk_frozen BK241.out 0; have hfz56_1 := blk_frozen BK241.out 1; have hfz56_2 := blk_frozen BK241.out 2; have hfz56_3 := blk_frozen BK241.out 3; have hnb57 := NB233_234.out; have hnc57 := NB234_233.out; have hcz58_0 : w53.cell? ⟨gb233, 0, none⟩ = some (.int .i64 a0_0) := (blk_cell BK233.out 0).trans rfl; have hcz58_1 : w53.cell? ⟨gb233, 1, none⟩ = some (.int .i64 a0_1) := (blk_cell BK233.out 1).trans rfl; have hfz58_0 := blk_frozen BK233.out 0; have hfz58_1 := blk_frozen BK233.out 1) | ((with_reducible refine gate_callee (f := 16) rfl ?_); refine goesL_ (some 26) rfl rfl Try.func16 (by kernel_rfl) rfl #[.agg #[.int .i64 a0_0, .int .i64 a0_1], .agg #[.int .i64 ((rd_T31 l1 x20_1).f0), .bool ((rd_T31 l1 x20_1).f1), .string ((rd_T31 l1 x20_1).f2), .string ((rd_T31 l1 x20_1).f3)]] rfl (by (try simp only [List.map_toArray, List.map_cons, List.map_nil]); first | done | rfl | (simp only [List.length_drop, List.length_take]; rfl)) ?_; (with_reducible refine (ranges_Check.calls a0_0 a0_1 ((rd_T31 l1 x20_1).f0) ((rd_T31 l1 x20_1).f1) ((rd_T31 l1 x20_1).f2) ((rd_T31 l1 x20_1).f3) t242 _ A13.out).mono ?_); rintro e w59 ⟨rfl, hb⟩; refine ⟨_, rfl, ?_⟩; have n0_ := Aside0.mk (Kd.R_below (by (with_reducible repeat (first | apply Kd.R_alloc | apply Kd.R_drewN | apply Kd.R_drew)); exact (Kd.R_mono (Kd.R_far (p := ⟨gb241, 3, none⟩) (Kd.R_far (p := ⟨gb241, 2, none⟩) (Kd.R_far (p := ⟨gb241, 1, none⟩) (Kd.R_far (p := ⟨gb241, 0, none⟩) (Kd.R_types HO_6.out BK241.out (by decide)) (fun _ hk => hk.2) (.int .i64 ((rd_T31 l1 x20_1).f0))) (fun _ hk => hk.2) (.bool ((rd_T31 l1 x20_1).f1))) (fun _ hk => hk.2) (.string ((rd_T31 l1 x20_1).f2))) (fun _ hk => hk.2) (.string ((rd_T31 l1 x20_1).f3))) (fun _ h_ => h_.1))) hb); have n1_ := Aside0.mk (blk_below (g := gb233) (o := .cells #[.int .i64 a0_0, .int .i64 a0_1] 24 (0, 0)) (by (with_reducible repeat (first | refine blk_drewN ?_ _ | refine blk_drew ?_ | refine blk_alloc ?_ _)); refine blk_far ?_ NB233_241.out _; (with_reducible repeat (first | refine blk_drewN ?_ _ | refine blk_drew ?_ | refine blk_alloc ?_ _)); refine blk_far ?_ NB233_241.out _; (with_reducible repeat (first | refine blk_drewN ?_ _ | refine blk_drew ?_ | refine blk_alloc ?_ _)); refine blk_far ?_ NB233_241.out _; (with_reducible repeat (first | refine blk_drewN ?_ _ | refine blk_drew ?_ | refine blk_alloc ?_ _)); refine blk_far ?_ NB233_241.out _; (with_reducible repeat (first | refine blk_drewN ?_ _ | refine blk_drew ?_ | refine blk_alloc ?_ _)); exact BK233.out) hb); have n2_ := Aside0.mk (blk_below (g := gb234) (o := .cells #[.int .i64 x235000_1, .bool x235001_1, .string x235002_1, .string x235003_1] 31 (0, 0)) (by (with_reducible repeat (first | refine blk_drewN ?_ _ | refine blk_drew ?_ | refine blk_alloc ?_ _)); refine blk_far ?_ NB234_241.out _; (with_reducible repeat (first | refine blk_drewN ?_ _ | refine blk_drew ?_ | refine blk_alloc ?_ _)); refine blk_far ?_ NB234_241.out _; (with_reducible repeat (first | refine blk_drewN ?_ _ | refine blk_drew ?_ | refine blk_alloc ?_ _)); refine blk_far ?_ NB234_241.out _; (with_reducible repeat (first | refine blk_drewN ?_ _ | refine blk_drew ?_ | refine blk_alloc ?_ _)); refine blk_far ?_ NB234_241.out _; (with_reducible repeat (first | refine blk_drewN ?_ _ | refine blk_drew ?_ | refine blk_alloc ?_ _)); exact BK234.out) hb); have n3_ := Aside0.mk (blk_below (g := gb241) (o := .cells #[.int .i64 ((rd_T31 l1 x20_1).f0), .bool ((rd_T31 l1 x20_1).f1), .string ((rd_T31 l1 x20_1).f2), .string ((rd_T31 l1 x20_1).f3)] 31 (0, 0)) (by (with_reducible repeat (first | refine blk_drewN ?_ _ | refine blk_drew ?_ | refine blk_alloc ?_ _)); refine blk_put (cs := #[.int .i64 ((rd_T31 l1 x20_1).f0), .bool ((rd_T31 l1 x20_1).f1), .string ((rd_T31 l1 x20_1).f2), .string (⟨#[]⟩ : ByteArray)]) ?_ 3 _ rfl; (with_reducible repeat (first | refine blk_drewN ?_ _ | refine blk_drew ?_ | refine blk_alloc ?_ _)); refine blk_put (cs := #[.int .i64 ((rd_T31 l1 x20_1).f0), .bool ((rd_T31 l1 x20_1).f1), .string (⟨#[]⟩ : ByteArray), .string (⟨#[]⟩ : ByteArray)]) ?_ 2 _ rfl; (with_reducible repeat (first | refine blk_drewN ?_ _ | refine blk_drew ?_ | refine blk_alloc ?_ _)); refine blk_put (cs := #[.int .i64 ((rd_T31 l1 x20_1).f0), .bool false, .string (⟨#[]⟩ : ByteArray), .string (⟨#[]⟩ : ByteArray)]) ?_ 1 _ rfl; (with_reducible repeat (first | refine blk_drewN ?_ _ | refine blk_drew ?_ | refine blk_alloc ?_ _)); refine blk_put (cs := #[.int .i64 0, .bool false, .string (⟨#[]⟩ : ByteArray), .string (⟨#[]⟩ : ByteArray)]) ?_ 0 _ rfl; (with_reducible repeat (first | refine blk_drewN ?_ _ | refine blk_drew ?_ | refine blk_alloc ?_ _)); exact BK241.out) hb); have n4_ := Aside0.mk (below_step (by repeat (first | (with_reducible first | exact HB.out | apply below_alloc | apply pw_below_drewN | apply below_drew1 | refine below_set ?_ GE233.out | refine below_set ?_ GE234.out | refine below_set ?_ GE241.out) | exact HB.out)) hb); clear HO_6; clear BK233; clear BK234; clear BK241; clear HB; have HO_6 := n0_; have BK233 := n1_; have BK234 := n2_; have BK241 := n3_; have HB := n4_; clear n0_ n1_ n2_ n3_ n4_; (try clear hb); (try clear hb2); (try clear hk); (try clear hi); have hcz60_0 : w59.cell? ⟨gb234, 0, none⟩ = some (.int .i64 x235000_1) := (blk_cell BK234.out 0).trans rfl; have hcz60_1 : w59.cell? ⟨gb234, 1, none⟩ = some (.bool x235001_1) := (blk_cell BK234.out 1).trans rfl; have hcz60_2 : w59.cell? ⟨gb234, 2, none⟩ = some (.string x235002_1) := (blk_cell BK234.out 2).trans rfl; have hcz60_3 : w59.cell? ⟨gb234, 3, none⟩ = some (.string x235003_1) := (blk_cell BK234.out 3).trans rfl; have hfz60_0 := blk_frozen BK234.out 0; have hfz60_1 := blk_frozen BK234.out 1; have hfz60_2 := blk_frozen BK234.out 2; have hfz60_3 := blk_frozen BK234.out 3))
                refine bodyPost_ret (results_ct rfl _ _ gb234 31 #[.int .i64 0, .bool false, .string (⟨#[]⟩ : ByteArray), .string (⟨#[]⟩ : ByteArray)] (0, 0) _ rfl (by (with_reducible repeat (first | refine blk_drewN ?_ _ | refine blk_drew ?_ | refine blk_alloc ?_ _)); refine blk_put (cs := #[.int .i64 0, .bool false, .string (⟨#[]⟩ : ByteArray), .string x235003_1]) ?_ 3 _ rfl; (with_reducible repeat (first | refine blk_drewN ?_ _ | refine blk_drew ?_ | refine blk_alloc ?_ _)); refine blk_put (cs := #[.int .i64 0, .bool false, .string x235002_1, .string x235003_1]) ?_ 2 _ rfl; (with_reducible repeat (first | refine blk_drewN ?_ _ | refine blk_drew ?_ | refine blk_alloc ?_ _)); refine blk_put (cs := #[.int .i64 0, .bool x235001_1, .string x235002_1, .string x235003_1]) ?_ 1 _ rfl; (with_reducible repeat (first | refine blk_drewN ?_ _ | refine blk_drew ?_ | refine blk_alloc ?_ _)); refine blk_put (cs := #[.int .i64 x235000_1, .bool x235001_1, .string x235002_1, .string x235003_1]) ?_ 0 _ rfl; (with_reducible repeat (first | refine blk_drewN ?_ _ | refine blk_drew ?_ | refine blk_alloc ?_ _)); exact BK234.out) Try.underlying31 rfl (by kernel_rfl)) rfl ?_
                exact ⟨by first | rfl | (simp [errW_none, errW_some] <;> rfl) | (simp [*, errW_none, errW_some] <;> rfl), by repeat (first | (with_reducible first | exact HB.out | apply below_alloc | apply pw_below_drewN | apply below_drew1 | refine below_set ?_ GE233.out | refine below_set ?_ GE234.out | refine below_set ?_ GE241.out) | exact HB.out)⟩
            · rw [if_neg c12] at H
              exact absurd H (by simp)
          · rw [if_neg c11] at H
            exact absurd H (by simp)
        · rw [if_neg c10] at H
          have c10b0 : decide (x20_1 < (l1.length : Int)) = false := decide_eq_false c10
          clear c10
          by_cases c61 : x7_1 > 65536
          · rw [if_pos c61] at H
            have c61b0 : decide (65536 < x7_1) = true := decide_eq_true c61
            clear c61
            simp only [Option.some.injEq, Prod.mk.injEq] at H
            obtain ⟨rfl, rfl, rfl, rfl, rfl⟩ := H
            have hnb62 := NB234_233.out
            have hnc62 := NB233_234.out
            have hcz63_0 : wr.cell? ⟨gb234, 0, none⟩ = some (.int .i64 x235000_1) := (blk_cell BK234.out 0).trans rfl
            have hcz63_1 : wr.cell? ⟨gb234, 1, none⟩ = some (.bool x235001_1) := (blk_cell BK234.out 1).trans rfl
            have hcz63_2 : wr.cell? ⟨gb234, 2, none⟩ = some (.string x235002_1) := (blk_cell BK234.out 2).trans rfl
            have hcz63_3 : wr.cell? ⟨gb234, 3, none⟩ = some (.string x235003_1) := (blk_cell BK234.out 3).trans rfl
            have hfz63_0 := blk_frozen BK234.out 0
            have hfz63_1 := blk_frozen BK234.out 1
            have hfz63_2 := blk_frozen BK234.out 2
            have hfz63_3 := blk_frozen BK234.out 3
            go_wp2
            refine bodyPost_ret (results_ct rfl _ _ gb234 31 #[.int .i64 0, .bool false, .string (⟨#[]⟩ : ByteArray), .string (⟨#[]⟩ : ByteArray)] (0, 0) _ rfl (by (with_reducible repeat (first | refine blk_drewN ?_ _ | refine blk_drew ?_ | refine blk_alloc ?_ _)); refine blk_put (cs := #[.int .i64 0, .bool false, .string (⟨#[]⟩ : ByteArray), .string x235003_1]) ?_ 3 _ rfl; (with_reducible repeat (first | refine blk_drewN ?_ _ | refine blk_drew ?_ | refine blk_alloc ?_ _)); refine blk_put (cs := #[.int .i64 0, .bool false, .string x235002_1, .string x235003_1]) ?_ 2 _ rfl; (with_reducible repeat (first | refine blk_drewN ?_ _ | refine blk_drew ?_ | refine blk_alloc ?_ _)); refine blk_put (cs := #[.int .i64 0, .bool x235001_1, .string x235002_1, .string x235003_1]) ?_ 1 _ rfl; (with_reducible repeat (first | refine blk_drewN ?_ _ | refine blk_drew ?_ | refine blk_alloc ?_ _)); refine blk_put (cs := #[.int .i64 x235000_1, .bool x235001_1, .string x235002_1, .string x235003_1]) ?_ 0 _ rfl; (with_reducible repeat (first | refine blk_drewN ?_ _ | refine blk_drew ?_ | refine blk_alloc ?_ _)); exact BK234.out) Try.underlying31 rfl (by kernel_rfl)) rfl ?_
            exact ⟨by first | rfl | (simp [errW_none, errW_some] <;> rfl) | (simp [*, errW_none, errW_some] <;> rfl), by repeat (first | (with_reducible first | exact HB.out | apply below_alloc | apply pw_below_drewN | apply below_drew1 | refine below_set ?_ GE233.out | refine below_set ?_ GE234.out) | exact HB.out)⟩
          · rw [if_neg c61] at H
            have c61b0 : decide (65536 < x7_1) = false := decide_eq_false c61
            clear c61
            replace H := Option.bind_eq_some_iff.mp H
            obtain ⟨⟨t236, t237, t238, t239⟩, A640, H⟩ := H
            replace H : (some (t236, t237, t238, t239, 0)) = some (r1, r2, r3, r4, r5) := H
            have A64 := Aside0.mk A640
            clear A640
            simp only [Option.some.injEq, Prod.mk.injEq] at H
            obtain ⟨rfl, rfl, rfl, rfl, rfl⟩ := H
            have hnb65 := NB233_234.out
            have hnc65 := NB234_233.out
            have hcz66_0 : wr.cell? ⟨gb233, 0, none⟩ = some (.int .i64 a0_0) := (blk_cell BK233.out 0).trans rfl
            have hcz66_1 : wr.cell? ⟨gb233, 1, none⟩ = some (.int .i64 a0_1) := (blk_cell BK233.out 1).trans rfl
            have hfz66_0 := blk_frozen BK233.out 0
            have hfz66_1 := blk_frozen BK233.out 1
            obtain ⟨Ao67, co67, eo67⟩ := Kd.R_slice HO_6.out
            subst eo67
            go_wp2_with (first | ((with_reducible refine gate_callee (f := 12) rfl ?_); refine goesL_ (some 57) rfl rfl Try.func12 (by kernel_rfl) rfl #[.agg #[.int .i64 a0_0, .int .i64 a0_1], .slice Ao67 x6_1.length co67, .int .i64 x7_1] rfl (by (try simp only [List.map_toArray, List.map_cons, List.map_nil]); first | done | rfl | (simp only [List.length_drop, List.length_take]; rfl)) ?_; (with_reducible refine (ranges_Of.calls a0_0 a0_1 _ _ x6_1 x7_1 t236 t237 t238 t239 _ ?side1 ?side2 A64.out).mono ?_); (case side1 => repeat (first | exact (Kd.R_reads' HO_6.out).2.2 | (with_reducible refine Kd.C_alloc ?_ _) | (with_reducible refine Kd.C_drewN ?_ _) | (with_reducible refine Kd.C_drew ?_))); (case side2 => exact (Kd.R_reads' HO_6.out).2.1); rintro e w68 ⟨rfl, hb⟩; refine ⟨_, rfl, ?_⟩; have n0_ := Aside0.mk (Kd.R_below (by (with_reducible repeat (first | apply Kd.R_alloc | apply Kd.R_drewN | apply Kd.R_drew)); exact HO_6.out) hb); have n1_ := Aside0.mk (blk_below (g := gb233) (o := .cells #[.int .i64 a0_0, .int .i64 a0_1] 24 (0, 0)) (by (with_reducible repeat (first | refine blk_drewN ?_ _ | refine blk_drew ?_ | refine blk_alloc ?_ _)); exact BK233.out) hb); have n2_ := Aside0.mk (blk_below (g := gb234) (o := .cells #[.int .i64 x235000_1, .bool x235001_1, .string x235002_1, .string x235003_1] 31 (0, 0)) (by (with_reducible repeat (first | refine blk_drewN ?_ _ | refine blk_drew ?_ | refine blk_alloc ?_ _)); exact BK234.out) hb); have n3_ := Aside0.mk (below_step (by repeat (first | (with_reducible first | exact HB.out | apply below_alloc | apply pw_below_drewN | apply below_drew1 | refine below_set ?_ GE233.out | refine below_set ?_ GE234.out) | exact HB.out)) hb); clear HO_6; clear BK233; clear BK234; clear HB; have HO_6 := n0_; have BK233 := n1_; have BK234 := n2_; have HB := n3_; clear n0_ n1_ n2_ n3_; (try clear hb); (try clear hb2); (try clear hk); (try clear hi); have hcz69_0 : w68.cell? ⟨gb234, 0, none⟩ = some (.int .i64 x235000_1) := (blk_cell BK234.out 0).trans rfl; have hcz69_1 : w68.cell? ⟨gb234, 1, none⟩ = some (.bool x235001_1) := (blk_cell BK234.out 1).trans rfl; have hcz69_2 : w68.cell? ⟨gb234, 2, none⟩ = some (.string x235002_1) := (blk_cell BK234.out 2).trans rfl; have hcz69_3 : w68.cell? ⟨gb234, 3, none⟩ = some (.string x235003_1) := (blk_cell BK234.out 3).trans rfl; have hfz69_0 := blk_frozen BK234.out 0; have hfz69_1 := blk_frozen BK234.out 1; have hfz69_2 := blk_frozen BK234.out 2; have hfz69_3 := blk_frozen BK234.out 3))
            refine bodyPost_ret (results_ct rfl _ _ gb234 31 #[.int .i64 t236, .bool t237, .string t238, .string t239] (0, 0) _ rfl (by (with_reducible repeat (first | refine blk_drewN ?_ _ | refine blk_drew ?_ | refine blk_alloc ?_ _)); refine blk_put (cs := #[.int .i64 t236, .bool t237, .string t238, .string x235003_1]) ?_ 3 _ rfl; (with_reducible repeat (first | refine blk_drewN ?_ _ | refine blk_drew ?_ | refine blk_alloc ?_ _)); refine blk_put (cs := #[.int .i64 t236, .bool t237, .string x235002_1, .string x235003_1]) ?_ 2 _ rfl; (with_reducible repeat (first | refine blk_drewN ?_ _ | refine blk_drew ?_ | refine blk_alloc ?_ _)); refine blk_put (cs := #[.int .i64 t236, .bool x235001_1, .string x235002_1, .string x235003_1]) ?_ 1 _ rfl; (with_reducible repeat (first | refine blk_drewN ?_ _ | refine blk_drew ?_ | refine blk_alloc ?_ _)); refine blk_put (cs := #[.int .i64 x235000_1, .bool x235001_1, .string x235002_1, .string x235003_1]) ?_ 0 _ rfl; (with_reducible repeat (first | refine blk_drewN ?_ _ | refine blk_drew ?_ | refine blk_alloc ?_ _)); exact BK234.out) Try.underlying31 rfl (by kernel_rfl)) rfl ?_
            exact ⟨by first | rfl | (simp [errW_none, errW_some] <;> rfl) | (simp [*, errW_none, errW_some] <;> rfl), by repeat (first | (with_reducible first | exact HB.out | apply below_alloc | apply pw_below_drewN | apply below_drew1 | refine below_set ?_ GE233.out | refine below_set ?_ GE234.out) | exact HB.out)⟩
  · rw [if_neg c4] at H
    have c4b0 : (t235 == 0) = false := beq_eq_false_iff_ne.mpr c4
    have c4b1 : (t235 != 0) = true := bne_iff_ne.mpr c4
    simp only [Option.some.injEq, Prod.mk.injEq] at H
    obtain ⟨rfl, rfl, rfl, rfl, rfl⟩ := H
    go_enter Try.func27, Try.ntmps27
    go_wp2_with (first | ((with_reducible refine gate_dst (N := 2) rfl ?_); refine box_event ?hg (N := 2) ?hd (cs := #[.int .i64 a0_0, .int .i64 a0_1]) (t := 24) ?hr ?_; (case hd => rfl); (case hg => rfl); (case hr => first | (go_simp; done) | (go_simp; rfl)); intro gb233 hg w70 hbox hb; have n0_ := Aside0.mk (below_step (by repeat (first | (with_reducible first | exact HB.out | apply below_alloc | apply pw_below_drewN | apply below_drew1) | exact HB.out)) hb); have n1_ := Aside0.mk (hbox); have n2_ := Aside0.mk ((by rw [hg]; exact (below_size (by repeat (first | (with_reducible first | exact HB.out | apply below_alloc | apply pw_below_drewN | apply below_drew1) | exact HB.out))) : w.heap.size ≤ gb233)); have n3_ := Aside0.mk ((by rw [hg]; exact (below_size (by repeat (first | (with_reducible first | exact HB.out | apply below_alloc | apply pw_below_drewN | apply below_drew1) | exact HB.out))) : w.heap.size ≤ gb233)); clear HB; have HB := n0_; have BK233 := n1_; have GW233 := n2_; have GE233 := n3_; clear n0_ n1_ n2_ n3_; clear hb hbox hg) | ((with_reducible refine gate_dst (N := 4) rfl ?_); refine box_event ?hg (N := 4) ?hd (cs := #[.int .i64 0, .bool false, .string (⟨#[]⟩ : ByteArray), .string (⟨#[]⟩ : ByteArray)]) (t := 31) ?hr ?_; (case hd => rfl); (case hg => rfl); (case hr => first | (go_simp; done) | (go_simp; rfl)); intro gb234 hg w71 hbox hb; have n0_ := Aside0.mk (blk_below (g := gb233) (o := .cells #[.int .i64 a0_0, .int .i64 a0_1] 24 (0, 0)) (by (with_reducible repeat (first | refine blk_drewN ?_ _ | refine blk_drew ?_ | refine blk_alloc ?_ _)); exact BK233.out) hb); have n1_ := Aside0.mk (below_step (by repeat (first | (with_reducible first | exact HB.out | apply below_alloc | apply pw_below_drewN | apply below_drew1 | refine below_set ?_ GE233.out) | exact HB.out)) hb); have n2_ := Aside0.mk (hbox); have n3_ := Aside0.mk ((by rw [hg]; exact (below_size (by repeat (first | (with_reducible first | exact HB.out | apply below_alloc | apply pw_below_drewN | apply below_drew1 | refine below_set ?_ GE233.out) | exact HB.out))) : w.heap.size ≤ gb234)); have n4_ := Aside0.mk ((by rw [hg]; exact (below_size (by repeat (first | (with_reducible first | exact HB.out | apply below_alloc | apply pw_below_drewN | apply below_drew1 | refine below_set ?_ GE233.out) | exact HB.out))) : w.heap.size ≤ gb234)); have n5_ := Aside0.mk ((by rw [hg]; exact Nat.ne_of_lt (blk_lt (g := gb233) (o := .cells #[.int .i64 a0_0, .int .i64 a0_1] 24 (0, 0)) (by (with_reducible repeat (first | refine blk_drewN ?_ _ | refine blk_drew ?_ | refine blk_alloc ?_ _)); exact BK233.out)) : gb233 ≠ gb234)); have n6_ := Aside0.mk ((by rw [hg]; exact Nat.ne_of_gt (blk_lt (g := gb233) (o := .cells #[.int .i64 a0_0, .int .i64 a0_1] 24 (0, 0)) (by (with_reducible repeat (first | refine blk_drewN ?_ _ | refine blk_drew ?_ | refine blk_alloc ?_ _)); exact BK233.out)) : gb234 ≠ gb233)); clear BK233; clear HB; have BK233 := n0_; have HB := n1_; have BK234 := n2_; have GW234 := n3_; have GE234 := n4_; have NB233_234 := n5_; have NB234_233 := n6_; clear n0_ n1_ n2_ n3_ n4_ n5_ n6_; clear hb hbox hg; have hnb72 := NB233_234.out; have hnc72 := NB234_233.out; have hcz73_0 : w71.cell? ⟨gb233, 0, none⟩ = some (.int .i64 a0_0) := (blk_cell BK233.out 0).trans rfl; have hcz73_1 : w71.cell? ⟨gb233, 1, none⟩ = some (.int .i64 a0_1) := (blk_cell BK233.out 1).trans rfl; have hfz73_0 := blk_frozen BK233.out 0; have hfz73_1 := blk_frozen BK233.out 1) | ((with_reducible refine gate_callee (f := 24) rfl ?_); refine goesL_ (some 15) rfl rfl Try.func24 (by kernel_rfl) rfl #[.agg #[.int .i64 a0_0, .int .i64 a0_1]] rfl (by (try simp only [List.map_toArray, List.map_cons, List.map_nil]); first | done | rfl | (simp only [List.length_drop, List.length_take]; rfl)) ?_; (with_reducible refine (datum_Check.calls a0_0 a0_1 t235 _ A3.out).mono ?_); rintro e w74 ⟨rfl, hb⟩; refine ⟨_, rfl, ?_⟩; have n0_ := Aside0.mk (blk_below (g := gb233) (o := .cells #[.int .i64 a0_0, .int .i64 a0_1] 24 (0, 0)) (by (with_reducible repeat (first | refine blk_drewN ?_ _ | refine blk_drew ?_ | refine blk_alloc ?_ _)); exact BK233.out) hb); have n1_ := Aside0.mk (blk_below (g := gb234) (o := .cells #[.int .i64 0, .bool false, .string (⟨#[]⟩ : ByteArray), .string (⟨#[]⟩ : ByteArray)] 31 (0, 0)) (by (with_reducible repeat (first | refine blk_drewN ?_ _ | refine blk_drew ?_ | refine blk_alloc ?_ _)); exact BK234.out) hb); have n2_ := Aside0.mk (below_step (by repeat (first | (with_reducible first | exact HB.out | apply below_alloc | apply pw_below_drewN | apply below_drew1 | refine below_set ?_ GE233.out | refine below_set ?_ GE234.out) | exact HB.out)) hb); clear BK233; clear BK234; clear HB; have BK233 := n0_; have BK234 := n1_; have HB := n2_; clear n0_ n1_ n2_; (try clear hb); (try clear hb2); (try clear hk); (try clear hi); have hcz75_0 : w74.cell? ⟨gb234, 0, none⟩ = some (.int .i64 0) := (blk_cell BK234.out 0).trans rfl; have hcz75_1 : w74.cell? ⟨gb234, 1, none⟩ = some (.bool false) := (blk_cell BK234.out 1).trans rfl; have hcz75_2 : w74.cell? ⟨gb234, 2, none⟩ = some (.string (⟨#[]⟩ : ByteArray)) := (blk_cell BK234.out 2).trans rfl; have hcz75_3 : w74.cell? ⟨gb234, 3, none⟩ = some (.string (⟨#[]⟩ : ByteArray)) := (blk_cell BK234.out 3).trans rfl; have hfz75_0 := blk_frozen BK234.out 0; have hfz75_1 := blk_frozen BK234.out 1; have hfz75_2 := blk_frozen BK234.out 2; have hfz75_3 := blk_frozen BK234.out 3))
    refine bodyPost_ret (results_ct rfl _ _ gb234 31 #[.int .i64 0, .bool false, .string (⟨#[]⟩ : ByteArray), .string (⟨#[]⟩ : ByteArray)] (0, 0) _ rfl (by (with_reducible repeat (first | refine blk_drewN ?_ _ | refine blk_drew ?_ | refine blk_alloc ?_ _)); refine blk_put (cs := #[.int .i64 0, .bool false, .string (⟨#[]⟩ : ByteArray), .string (⟨#[]⟩ : ByteArray)]) ?_ 3 _ rfl; (with_reducible repeat (first | refine blk_drewN ?_ _ | refine blk_drew ?_ | refine blk_alloc ?_ _)); refine blk_put (cs := #[.int .i64 0, .bool false, .string (⟨#[]⟩ : ByteArray), .string (⟨#[]⟩ : ByteArray)]) ?_ 2 _ rfl; (with_reducible repeat (first | refine blk_drewN ?_ _ | refine blk_drew ?_ | refine blk_alloc ?_ _)); refine blk_put (cs := #[.int .i64 0, .bool false, .string (⟨#[]⟩ : ByteArray), .string (⟨#[]⟩ : ByteArray)]) ?_ 1 _ rfl; (with_reducible repeat (first | refine blk_drewN ?_ _ | refine blk_drew ?_ | refine blk_alloc ?_ _)); refine blk_put (cs := #[.int .i64 0, .bool false, .string (⟨#[]⟩ : ByteArray), .string (⟨#[]⟩ : ByteArray)]) ?_ 0 _ rfl; (with_reducible repeat (first | refine blk_drewN ?_ _ | refine blk_drew ?_ | refine blk_alloc ?_ _)); exact BK234.out) Try.underlying31 rfl (by kernel_rfl)) rfl ?_
    exact ⟨by first | rfl | (simp [errW_none, errW_some] <;> rfl) | (simp [*, errW_none, errW_some] <;> rfl), by repeat (first | (with_reducible first | exact HB.out | apply below_alloc | apply pw_below_drewN | apply below_drew1 | refine below_set ?_ GE233.out | refine below_set ?_ GE234.out) | exact HB.out)⟩

end Go.Proofs.Ytncehlbhjoejhaa.H
end
section
-- Laid by this session's hprint.py, out of the kit's print.py and texts of the session. Not trusted: Lean checks it.
namespace Go.Proofs.Ytncehlbhjoejhaa.H
open Go.RowKit Go.Proofs.YtncehlbhjoejhaaW.PrintWords Go.Proofs.YtncehlbhjoejhaaW.PrintLast Go.Proofs.YtncehlbhjoejhaaW.PrintMore
attribute [local go_sem] max2_int min2_int max_two min_two max_three min_three max_four min_four   -- for this text's walks alone
set_option linter.unusedVariables false
set_option linter.unusedSimpArgs false

-- OVPART Derived.Lib.Hide Derived.Maps.Own
/-! ### ranges_May: function 22 -/
def cV (op a b : Int) : Bool := if op = 6 then decide (a ≤ 0) && decide (b ≥ 0) else if op = 7 then (a != 0) || (b != 0) else if op = 8 then decide (a < 0) else if op = 9 then decide (a ≤ 0) else if op = 10 then decide (b > 0) else decide (b ≥ 0)
def ranges_May.f (op k i : Int) (t : ByteArray) (t0 t1 rows n : Int) (has : Bool) (least most : ByteArray) : Option Bool :=
  (ranges_Check.f t0 t1 n has least most).bind fun e =>
    if e ≠ 0 then some true else if rows < 0 then some true
    else if op = 4 then some (decide (n > 0))
    else if op = 5 then some (decide (rows > n))
    else if (fOf op).isSome = false then some true
    else if ofB t0 t1 ⟨k, i, t⟩ = false then some false else if nanV ⟨k, i, t⟩ = true then some false else if has = false then some false else if rows ≤ n then some false
    else (ranges_ends.f t0 t1 n has least most).bind fun x => (datum_Compare.f x.1 x.2.1 x.2.2.1 k i t).bind fun c => (datum_Compare.f x.2.2.2.1 x.2.2.2.2.1 x.2.2.2.2.2.1 k i t).bind fun d => some (cV op c.1 d.1)
set_option maxHeartbeats 1000000 in
theorem may1 (a b : Int) (w : World) : Calls Try.prog 62 #[.int .i64 a, .int .i64 b] w fun e w' => e = .returned (.bool (decide (a ≤ 0) && decide (b ≥ 0))) ∧ Below w.heap.size w w' := by
  cases hc : decide (a ≤ 0)
  all_goals
    go_enter Try.func62, Try.ntmps62
    go_wp2_with fail
    go_ret
    exact ⟨by simp [hc], Below.refl _ _⟩
set_option maxHeartbeats 1000000 in
theorem may2 (a b : Int) (w : World) : Calls Try.prog 63 #[.int .i64 a, .int .i64 b] w fun e w' => e = .returned (.bool ((a != 0) || (b != 0))) ∧ Below w.heap.size w w' := by
  cases hc : (a != 0)
  all_goals
    go_enter Try.func63, Try.ntmps63
    go_wp2_with fail
    go_ret
    exact ⟨by simp [hc], Below.refl _ _⟩
set_option maxHeartbeats 1000000 in
theorem may3 (a b : Int) (w : World) : Calls Try.prog 64 #[.int .i64 a, .int .i64 b] w fun e w' => e = .returned (.bool (decide (a < 0))) ∧ Below w.heap.size w w' := by
  go_enter Try.func64, Try.ntmps64
  go_wp2_with fail
  go_ret
  exact ⟨by first | rfl | simp, Below.refl _ _⟩
set_option maxHeartbeats 1000000 in
theorem may4 (a b : Int) (w : World) : Calls Try.prog 65 #[.int .i64 a, .int .i64 b] w fun e w' => e = .returned (.bool (decide (a ≤ 0))) ∧ Below w.heap.size w w' := by
  go_enter Try.func65, Try.ntmps65
  go_wp2_with fail
  go_ret
  exact ⟨by first | rfl | simp, Below.refl _ _⟩
set_option maxHeartbeats 1000000 in
theorem may5 (a b : Int) (w : World) : Calls Try.prog 66 #[.int .i64 a, .int .i64 b] w fun e w' => e = .returned (.bool (decide (b > 0))) ∧ Below w.heap.size w w' := by
  go_enter Try.func66, Try.ntmps66
  go_wp2_with fail
  go_ret
  exact ⟨by first | rfl | simp, Below.refl _ _⟩
set_option maxHeartbeats 1000000 in
theorem may6 (a b : Int) (w : World) : Calls Try.prog 67 #[.int .i64 a, .int .i64 b] w fun e w' => e = .returned (.bool (decide (b ≥ 0))) ∧ Below w.heap.size w w' := by
  go_enter Try.func67, Try.ntmps67
  go_wp2_with fail
  go_ret
  exact ⟨by first | rfl | simp, Below.refl _ _⟩
structure SM (w W : World) (k i : Int) (t : ByteArray) (t0 t1 n : Int) (has : Bool) (least most : ByteArray) : Prop where
  b0 : W.heap[w.heap.size]? = some (.cells #[.int .i64 k, .int .i64 i, .string t] 29 (0, 0))
  b1 : W.heap[w.heap.size + 1]? = some (.cells #[.int .i64 t0, .int .i64 t1] 24 (0, 0))
  b2 : W.heap[w.heap.size + 1 + 1]? = some (.cells #[.int .i64 n, .bool has, .string least, .string most] 31 (0, 0))
  below : Below w.heap.size w W
theorem SM.next {w W W' : World} {k i : Int} {t : ByteArray} {t0 t1 n : Int} {has : Bool} {least most : ByteArray} (h : SM w W k i t t0 t1 n has least most) (hb : Below W.heap.size W W') : SM w W' k i t t0 t1 n has least most := ⟨blk_below h.b0 hb, blk_below h.b1 hb, blk_below h.b2 hb, below_step h.below hb⟩
theorem SM.start (w : World) (k i : Int) (t : ByteArray) (t0 t1 n : Int) (has : Bool) (least most : ByteArray) : SM w (((w.alloc (.cells #[.int .i64 k, .int .i64 i, .string t] 29)).alloc (.cells #[.int .i64 t0, .int .i64 t1] 24)).alloc (.cells #[.int .i64 n, .bool has, .string least, .string most] 31)) k i t t0 t1 n has least most := by
  refine ⟨blk_alloc (blk_alloc (blk_new w _) _) _, blk_alloc ?_ _, ?_, below_alloc (below_alloc (below_alloc (Below.refl _ _) _) _) _⟩
  · have h := blk_new (w.alloc (.cells #[.int .i64 k, .int .i64 i, .string t] 29)) (.cells #[.int .i64 t0, .int .i64 t1] 24)
    simp only [World.size_alloc] at h
    exact h
  · have h := blk_new ((w.alloc (.cells #[.int .i64 k, .int .i64 i, .string t] 29)).alloc (.cells #[.int .i64 t0, .int .i64 t1] 24)) (.cells #[.int .i64 n, .bool has, .string least, .string most] 31)
    simp only [World.size_alloc] at h
    exact h
theorem SM.cells {w W : World} {k i : Int} {t : ByteArray} {t0 t1 n : Int} {has : Bool} {least most : ByteArray} (h : SM w W k i t t0 t1 n has least most) : (W.cell? ⟨w.heap.size, 0, none⟩ = some (.int .i64 k) ∧ W.cell? ⟨w.heap.size, 1, none⟩ = some (.int .i64 i) ∧ W.cell? ⟨w.heap.size, 2, none⟩ = some (.string t)) ∧
    (W.cell? ⟨w.heap.size + 1, 0, none⟩ = some (.int .i64 t0) ∧ W.cell? ⟨w.heap.size + 1, 1, none⟩ = some (.int .i64 t1)) ∧
    (W.cell? ⟨w.heap.size + 1 + 1, 0, none⟩ = some (.int .i64 n) ∧ W.cell? ⟨w.heap.size + 1 + 1, 1, none⟩ = some (.bool has) ∧ W.cell? ⟨w.heap.size + 1 + 1, 2, none⟩ = some (.string least) ∧ W.cell? ⟨w.heap.size + 1 + 1, 3, none⟩ = some (.string most)) :=
  ⟨⟨blk_cell h.b0 0, blk_cell h.b0 1, blk_cell h.b0 2⟩, ⟨blk_cell h.b1 0, blk_cell h.b1 1⟩, ⟨blk_cell h.b2 0, blk_cell h.b2 1, blk_cell h.b2 2, blk_cell h.b2 3⟩⟩
set_option maxHeartbeats 8000000 in
set_option maxRecDepth 100000 in
theorem ranges_May.calls (a0 : Int) (a1_0 : Int) (a1_1 : Int) (a1_2 : ByteArray) (a2_0 : Int) (a2_1 : Int) (a3 : Int) (a4_0 : Int) (a4_1 : Bool) (a4_2 : ByteArray) (a4_3 : ByteArray) (r : Bool) (w : World) (h : ranges_May.f a0 a1_0 a1_1 a1_2 a2_0 a2_1 a3 a4_0 a4_1 a4_2 a4_3 = some r) :
    Calls Try.prog 22 #[.int .i64 a0, .agg #[.int .i64 a1_0, .int .i64 a1_1, .string a1_2], .agg #[.int .i64 a2_0, .int .i64 a2_1], .int .i64 a3, .agg #[.int .i64 a4_0, .bool a4_1, .string a4_2, .string a4_3]] w fun e w' => e = .returned (.bool r) ∧ Below w.heap.size w w' := by
  unfold ranges_May.f at h
  obtain ⟨e, he, h1⟩ := Option.bind_eq_some_iff.mp h
  clear h
  have h := h1
  clear h1
  have hS := SM.start w a1_0 a1_1 a1_2 a2_0 a2_1 a4_0 a4_1 a4_2 a4_3
  obtain ⟨W0, hW0⟩ : ∃ W0, W0 = (((w.alloc (.cells #[.int .i64 a1_0, .int .i64 a1_1, .string a1_2] 29)).alloc (.cells #[.int .i64 a2_0, .int .i64 a2_1] 24)).alloc (.cells #[.int .i64 a4_0, .bool a4_1, .string a4_2, .string a4_3] 31)) := ⟨_, rfl⟩
  rw [← hW0] at hS
  have HW0 := Lib.hid hW0
  have HE := Lib.hid he
  have HH := Lib.hid h
  clear hW0 he h
  go_enter Try.func22, Try.ntmps22
  go_wp2_with fail
  rw [← HW0.out]
  refine (ranges_Check.calls _ _ _ _ _ _ e W0 HE.out).mono ?_
  rintro e' w1 ⟨rfl, hB1⟩
  have hS1 := hS.next hB1
  clear hB1 hS
  obtain ⟨⟨c00, c01, c02⟩, ⟨c10, c11⟩, ⟨c20, c21, c22, c23⟩⟩ := hS1.cells
  by_cases he0 : e ≠ 0
  · have h := HH.out
    rw [if_pos he0] at h
    obtain rfl := Option.some.inj h
    have hb : (e != 0) = true := bne_iff_ne.mpr he0
    clear h he0
    go_wp2_with fail
    go_ret
    exact ⟨rfl, hS1.below⟩
  have h := HH.out
  rw [if_neg he0] at h
  have he1 : e = 0 := Decidable.not_not.mp he0
  subst he1
  clear he0 HH
  by_cases hr : a3 < 0
  · rw [if_pos hr] at h
    obtain rfl := Option.some.inj h
    have hrb : decide (a3 < 0) = true := decide_eq_true hr
    clear h
    go_wp2_with fail
    go_ret
    exact ⟨rfl, hS1.below⟩
  rw [if_neg hr] at h
  have hrb : decide (a3 < 0) = false := decide_eq_false hr
  have HH := Lib.hid h
  clear h hr
  go_wp2_with fail
  refine (cond_calls w1).mono ?_
  rintro e' w2 ⟨rfl, hB2, hown⟩
  have hS2 := hS1.next hB2
  have hlk := fLook w2 w1.heap.size 6 hown a0
  clear c00 c01 c02 c10 c11 c20 c21 c22 c23 hS1 hB2 hown
  obtain ⟨⟨c00, c01, c02⟩, ⟨c10, c11⟩, ⟨c20, c21, c22, c23⟩⟩ := hS2.cells
  by_cases h4 : a0 = 4
  · have h := HH.out
    rw [if_pos h4] at h
    obtain rfl := Option.some.inj h
    have h4b : (a0 == 4) = true := beq_iff_eq.mpr h4
    clear h h4
    go_wp2_with fail
    go_ret
    exact ⟨rfl, hS2.below⟩
  have h := HH.out
  rw [if_neg h4] at h
  have h4b : (a0 == 4) = false := beq_eq_false_iff_ne.mpr h4
  clear HH h4
  by_cases h5 : a0 = 5
  · rw [if_pos h5] at h
    obtain rfl := Option.some.inj h
    have h5b : (a0 == 5) = true := beq_iff_eq.mpr h5
    clear h h5
    go_wp2_with fail
    go_ret
    exact ⟨rfl, hS2.below⟩
  rw [if_neg h5] at h
  have h5b : (a0 == 5) = false := beq_eq_false_iff_ne.mpr h5
  clear h5
  by_cases hf : (fOf a0).isSome = false
  · rw [if_pos hf] at h
    obtain rfl := Option.some.inj h
    clear h
    go_wp2_with fail
    go_ret
    exact ⟨rfl, hS2.below⟩
  rw [if_neg hf] at h
  have hf' : (fOf a0).isSome = true := by
    cases hx : (fOf a0).isSome with
    | true => rfl
    | false => exact absurd hx hf
  clear hf
  have hOf := of_val a2_0 a2_1 ⟨a1_0, a1_1, a1_2⟩
  by_cases hob : ofB a2_0 a2_1 ⟨a1_0, a1_1, a1_2⟩ = false
  · rw [if_pos hob] at h
    obtain rfl := Option.some.inj h
    rw [hob] at hOf
    have HOF := Lib.hid hOf
    clear h hOf hob
    go_wp2_with fail
    refine (datum_Of.calls _ _ _ _ _ _ _ HOF.out).mono ?_
    rintro e' w3 ⟨rfl, hB3⟩
    have hS3 := hS2.next hB3
    clear c00 c01 c02 c10 c11 c20 c21 c22 c23 hS2 hB3
    obtain ⟨⟨c00, c01, c02⟩, ⟨c10, c11⟩, ⟨c20, c21, c22, c23⟩⟩ := hS3.cells
    go_wp2_with fail
    go_ret
    exact ⟨rfl, hS3.below⟩
  rw [if_neg hob] at h
  have hob' : ofB a2_0 a2_1 ⟨a1_0, a1_1, a1_2⟩ = true := by simpa using hob
  rw [hob'] at hOf
  have HOF := Lib.hid hOf
  have HH := Lib.hid h
  clear h hOf hob hob'
  go_wp2_with fail
  refine (datum_Of.calls _ _ _ _ _ _ _ HOF.out).mono ?_
  rintro e' w3 ⟨rfl, hB3⟩
  have hS3 := hS2.next hB3
  clear c00 c01 c02 c10 c11 c20 c21 c22 c23 hS2 hB3 HOF
  obtain ⟨⟨c00, c01, c02⟩, ⟨c10, c11⟩, ⟨c20, c21, c22, c23⟩⟩ := hS3.cells
  go_wp2_with fail
  by_cases hn : nanV ⟨a1_0, a1_1, a1_2⟩ = true
  · have h := HH.out
    rw [if_pos hn] at h
    obtain rfl := Option.some.inj h
    have hN : datum_Nan.f a1_0 a1_1 a1_2 = some true := congrArg some hn
    clear h hn
    refine (datum_Nan.calls _ _ _ _ _ hN).mono ?_
    rintro e' w4 ⟨rfl, hB4⟩
    have hS4 := hS3.next hB4
    clear c00 c01 c02 c10 c11 c20 c21 c22 c23 hS3 hB4
    obtain ⟨⟨c00, c01, c02⟩, ⟨c10, c11⟩, ⟨c20, c21, c22, c23⟩⟩ := hS4.cells
    go_wp2_with fail
    go_ret
    exact ⟨rfl, hS4.below⟩
  have h := HH.out
  rw [if_neg hn] at h
  have hn' : nanV ⟨a1_0, a1_1, a1_2⟩ = false := by simpa using hn
  have hN : datum_Nan.f a1_0 a1_1 a1_2 = some false := congrArg some hn'
  clear HH hn hn'
  refine (datum_Nan.calls _ _ _ _ _ hN).mono ?_
  rintro e' w4 ⟨rfl, hB4⟩
  have hS4 := hS3.next hB4
  clear c00 c01 c02 c10 c11 c20 c21 c22 c23 hS3 hB4 hN
  obtain ⟨⟨c00, c01, c02⟩, ⟨c10, c11⟩, ⟨c20, c21, c22, c23⟩⟩ := hS4.cells
  by_cases hh : a4_1 = false
  · rw [if_pos hh] at h
    obtain rfl := Option.some.inj h
    subst hh
    clear h
    go_wp2_with fail
    go_ret
    exact ⟨rfl, hS4.below⟩
  rw [if_neg hh] at h
  have hh' : a4_1 = true := by simpa using hh
  subst hh'
  clear hh
  by_cases hq : a3 ≤ a4_0
  · rw [if_pos hq] at h
    obtain rfl := Option.some.inj h
    have hqb : decide (a3 ≤ a4_0) = true := decide_eq_true hq
    clear h
    go_wp2_with fail
    go_ret
    exact ⟨rfl, hS4.below⟩
  rw [if_neg hq] at h
  have hqb : decide (a3 ≤ a4_0) = false := decide_eq_false hq
  clear hq
  obtain ⟨⟨ak, ai, at_, bk, bi, bt_, ok⟩, hx, h1⟩ := Option.bind_eq_some_iff.mp h
  obtain ⟨⟨c, cok⟩, hc, h2⟩ := Option.bind_eq_some_iff.mp h1
  obtain ⟨⟨d, dok⟩, hd, h3⟩ := Option.bind_eq_some_iff.mp h2
  obtain rfl := Option.some.inj h3
  clear h h1 h2 h3
  have HX := Lib.hid hx
  have HC := Lib.hid hc
  have HD := Lib.hid hd
  clear hx hc hd
  go_wp2_with fail
  refine (ranges_ends.calls _ _ _ _ _ _ _ _ _ _ _ _ _ _ HX.out).mono ?_
  rintro e' w5 ⟨rfl, hB5⟩
  have hS5 := hS4.next hB5
  clear c00 c01 c02 c10 c11 c20 c21 c22 c23 hS4 hB5
  obtain ⟨⟨c00, c01, c02⟩, ⟨c10, c11⟩, ⟨c20, c21, c22, c23⟩⟩ := hS5.cells
  have hlt := blk_lt hS5.b2
  have hlt0 : w.heap.size < w5.heap.size := by omega
  have hne0 : w.heap.size ≠ w5.heap.size := by omega
  have hne1 : w.heap.size ≠ w5.heap.size + 1 := by omega
  go_wp2_with fail
  have hA5 : Below w5.heap.size w5 ((w5.alloc (.cells #[.int .i64 ak, .int .i64 ai, .string at_] 29)).alloc (.cells #[.int .i64 bk, .int .i64 bi, .string bt_] 29)) := below_alloc (below_alloc (Below.refl _ _) _) _
  have hkB := blk_new (w5.alloc (.cells #[.int .i64 ak, .int .i64 ai, .string at_] 29)) (.cells #[.int .i64 bk, .int .i64 bi, .string bt_] 29)
  rw [World.size_alloc] at hkB
  refine (datum_Compare.calls _ _ _ _ _ _ c cok _ HC.out).mono ?_
  rintro e' w6 ⟨rfl, hB6⟩
  have hS6 := hS5.next (below_step hA5 hB6)
  have hkB6 := blk_below hkB hB6
  have g0 := blk_cell hkB6 0
  have g1 := blk_cell hkB6 1
  have g2 := blk_cell hkB6 2
  clear c00 c01 c02 c10 c11 c20 c21 c22 c23 hS5 hB6 hA5 hkB hlt hlt0 hne0 hne1
  obtain ⟨⟨c00, c01, c02⟩, ⟨c10, c11⟩, ⟨c20, c21, c22, c23⟩⟩ := hS6.cells
  go_wp2_with fail
  refine (datum_Compare.calls _ _ _ _ _ _ d dok _ HD.out).mono ?_
  rintro e' w7 ⟨rfl, hB7⟩
  have hS7 := hS6.next hB7
  clear c00 c01 c02 c10 c11 c20 c21 c22 c23 hS6 hB7 g0 g1 g2 hkB6
  have hcase : a0 = 6 ∨ a0 = 7 ∨ a0 = 8 ∨ a0 = 9 ∨ a0 = 10 ∨ a0 = 11 := by
    unfold fOf at hf'
    repeat' (split at hf'; (next hh => first | exact .inl hh | exact .inr (.inl hh) | exact .inr (.inr (.inl hh)) | exact .inr (.inr (.inr (.inl hh))) | exact .inr (.inr (.inr (.inr (.inl hh)))) | exact .inr (.inr (.inr (.inr (.inr hh))))))
    cases hf'
  clear hf' hlk HX HC HD
  rcases hcase with rfl | rfl | rfl | rfl | rfl | rfl
  · rw [show fVal 6 = .func (.func 62) #[] #[] from rfl]
    go_wp2_with fail
    refine (may1 c d w7).mono ?_
    rintro e' w8 ⟨rfl, hB8⟩
    have hS8 := hS7.next hB8
    go_wp2_with fail
    go_ret
    exact ⟨rfl, hS8.below⟩
  · rw [show fVal 7 = .func (.func 63) #[] #[] from rfl]
    go_wp2_with fail
    refine (may2 c d w7).mono ?_
    rintro e' w8 ⟨rfl, hB8⟩
    have hS8 := hS7.next hB8
    go_wp2_with fail
    go_ret
    exact ⟨rfl, hS8.below⟩
  · rw [show fVal 8 = .func (.func 64) #[] #[] from rfl]
    go_wp2_with fail
    refine (may3 c d w7).mono ?_
    rintro e' w8 ⟨rfl, hB8⟩
    have hS8 := hS7.next hB8
    go_wp2_with fail
    go_ret
    exact ⟨rfl, hS8.below⟩
  · rw [show fVal 9 = .func (.func 65) #[] #[] from rfl]
    go_wp2_with fail
    refine (may4 c d w7).mono ?_
    rintro e' w8 ⟨rfl, hB8⟩
    have hS8 := hS7.next hB8
    go_wp2_with fail
    go_ret
    exact ⟨rfl, hS8.below⟩
  · rw [show fVal 10 = .func (.func 66) #[] #[] from rfl]
    go_wp2_with fail
    refine (may5 c d w7).mono ?_
    rintro e' w8 ⟨rfl, hB8⟩
    have hS8 := hS7.next hB8
    go_wp2_with fail
    go_ret
    exact ⟨rfl, hS8.below⟩
  · rw [show fVal 11 = .func (.func 67) #[] #[] from rfl]
    go_wp2_with fail
    refine (may6 c d w7).mono ?_
    rintro e' w8 ⟨rfl, hB8⟩
    have hS8 := hS7.next hB8
    go_wp2_with fail
    go_ret
    exact ⟨rfl, hS8.below⟩


end Go.Proofs.Ytncehlbhjoejhaa.H
end
section
-- Laid by this session's hprint.py, out of the kit's print.py and texts of the session. Not trusted: Lean checks it.
namespace Go.Proofs.Ytncehlbhjoejhaa.H
open Go.RowKit Go.Proofs.YtncehlbhjoejhaaW.PrintWords Go.Proofs.YtncehlbhjoejhaaW.PrintLast Go.Proofs.YtncehlbhjoejhaaW.PrintMore
attribute [local go_sem] max2_int min2_int max_two min_two max_three min_three max_four min_four   -- for this text's walks alone
set_option linter.unusedVariables false
set_option linter.unusedSimpArgs false

-- OVPART Derived.Lib.Hide Derived.Deep.RegionHeld3 Derived.Deep.RegionWith Derived.Outline Derived.WalkLawsBesides
/-! ### marquetrylaw22_works: function 11 -/
def marquetrylaw22_works.f : Option Bool := some true
abbrev wkL : List S29 := [⟨1, 5, ⟨#[]⟩⟩, ⟨1, -1, ⟨#[]⟩⟩, ⟨1, 7, ⟨#[]⟩⟩]
abbrev wkA : ByteArray := ⟨#[255, 255, 255, 255]⟩
abbrev wkB : ByteArray := ⟨#[7, 0, 0, 0]⟩
theorem wkOf : ranges_Of.f 1 0 wkL 2 = some (2, true, wkA, wkB) := by decide +kernel
theorem wkRead : ranges_Read.f 1 0 wkB = some (1, 7, ⟨#[]⟩, 0) := by decide +kernel
theorem wkMay7 : ranges_May.f 6 1 7 ⟨#[]⟩ 1 0 5 2 true wkA wkB = some true := by decide +kernel
theorem wkMay8 : ranges_May.f 6 1 8 ⟨#[]⟩ 1 0 5 2 true wkA wkB = some false := by decide +kernel
theorem wkMay0 : ranges_May.f 4 1 0 ⟨#[]⟩ 1 0 5 2 true wkA wkB = some true := by decide +kernel
theorem wkCheck : ranges_Check.f 1 0 2 true wkA wkB = some 0 := by decide +kernel
structure SK (w W : World) : Prop where
  b0 : W.heap[w.heap.size]? = some (.cells #[.int .i64 1, .int .i64 0] 24 (0, 0))
  below : Below w.heap.size w W
theorem SK.after {w W W' : World} (h : (W.cell? ⟨w.heap.size, 0, none⟩ = some (.int .i64 1) ∧ W.cell? ⟨w.heap.size, 1, none⟩ = some (.int .i64 0)) ∧ SK w W) (hb : Below W.heap.size W W') : (W'.cell? ⟨w.heap.size, 0, none⟩ = some (.int .i64 1) ∧ W'.cell? ⟨w.heap.size, 1, none⟩ = some (.int .i64 0)) ∧ SK w W' := by
  have b := blk_below h.2.b0 hb
  exact ⟨⟨blk_cell b 0, blk_cell b 1⟩, b, below_step h.2.below hb⟩
theorem SK.start (w : World) : ((w.alloc (.cells #[.int .i64 1, .int .i64 0] 24)).drew.cell? ⟨w.heap.size, 0, none⟩ = some (.int .i64 1) ∧ (w.alloc (.cells #[.int .i64 1, .int .i64 0] 24)).drew.cell? ⟨w.heap.size, 1, none⟩ = some (.int .i64 0)) ∧ SK w (w.alloc (.cells #[.int .i64 1, .int .i64 0] 24)).drew := by
  have b : (w.alloc (.cells #[.int .i64 1, .int .i64 0] 24)).drew.heap[w.heap.size]? = some (.cells #[.int .i64 1, .int .i64 0] 24 (0, 0)) := blk_new w _
  exact ⟨⟨blk_cell b 0, blk_cell b 1⟩, b, (below_alloc (Below.refl _ _) _).drew⟩
theorem SK.lt {w W : World} (h : (W.cell? ⟨w.heap.size, 0, none⟩ = some (.int .i64 1) ∧ W.cell? ⟨w.heap.size, 1, none⟩ = some (.int .i64 0)) ∧ SK w W) : w.heap.size < W.heap.size := blk_lt h.2.b0
theorem SK.put {w W : World} {B : Nat} (h : (W.cell? ⟨w.heap.size, 0, none⟩ = some (.int .i64 1) ∧ W.cell? ⟨w.heap.size, 1, none⟩ = some (.int .i64 0)) ∧ SK w W) (hB : W.heap[B]? = some (.cells #[.int .i64 0, .bool false, .string ⟨#[]⟩, .string ⟨#[]⟩] 31)) (hle : w.heap.size ≤ B) :
    (((((W.setCell ⟨B, 0, none⟩ (.int .i64 2)).setCell ⟨B, 1, none⟩ (.bool true)).setCell ⟨B, 2, none⟩ (.string wkA)).setCell ⟨B, 3, none⟩ (.string wkB)).cell? ⟨w.heap.size, 0, none⟩ = some (.int .i64 1) ∧ ((((W.setCell ⟨B, 0, none⟩ (.int .i64 2)).setCell ⟨B, 1, none⟩ (.bool true)).setCell ⟨B, 2, none⟩ (.string wkA)).setCell ⟨B, 3, none⟩ (.string wkB)).cell? ⟨w.heap.size, 1, none⟩ = some (.int .i64 0)) ∧ SK w ((((W.setCell ⟨B, 0, none⟩ (.int .i64 2)).setCell ⟨B, 1, none⟩ (.bool true)).setCell ⟨B, 2, none⟩ (.string wkA)).setCell ⟨B, 3, none⟩ (.string wkB)) := by
  have hne : w.heap.size ≠ B := blk_ne h.2.b0 hB (by decide)
  have b := blk_far (blk_far (blk_far (blk_far h.2.b0 (p := ⟨B, 0, none⟩) hne (.int .i64 2)) (p := ⟨B, 1, none⟩) hne (.bool true)) (p := ⟨B, 2, none⟩) hne (.string wkA)) (p := ⟨B, 3, none⟩) hne (.string wkB)
  exact ⟨⟨blk_cell b 0, blk_cell b 1⟩, b, (((h.2.below.setCell (p := ⟨B, 0, none⟩) hle _).setCell (p := ⟨B, 1, none⟩) hle _).setCell (p := ⟨B, 2, none⟩) hle _).setCell (p := ⟨B, 3, none⟩) hle _⟩
theorem SK.swap {w W : World} (Z Y : Obj) (h : ((W.alloc Z).cell? ⟨w.heap.size, 0, none⟩ = some (.int .i64 1) ∧ (W.alloc Z).cell? ⟨w.heap.size, 1, none⟩ = some (.int .i64 0)) ∧ SK w (W.alloc Z)) (l : w.heap.size < W.heap.size) : ((W.alloc Y).cell? ⟨w.heap.size, 0, none⟩ = some (.int .i64 1) ∧ (W.alloc Y).cell? ⟨w.heap.size, 1, none⟩ = some (.int .i64 0)) ∧ SK w (W.alloc Y) := by
  have e : ∀ k, k < W.heap.size → (W.alloc Y).heap[k]? = (W.alloc Z).heap[k]? := fun k hk => (Below.heap_alloc W Y k hk).trans (Below.heap_alloc W Z k hk).symm
  have b : (W.alloc Y).heap[w.heap.size]? = some (.cells #[.int .i64 1, .int .i64 0] 24 (0, 0)) := (e _ l).trans h.2.b0
  refine ⟨⟨blk_cell b 0, blk_cell b 1⟩, b, ⟨h.2.below.os, h.2.below.tape, h.2.below.output, ?_, fun k hk => ?_⟩⟩
  · have := h.2.below.size
    simp only [World.size_alloc] at this ⊢
    exact this
  · exact (e k (by omega)).trans (h.2.below.block k hk)
/-- The type and what is known of the three, and nothing below is written. -/
structure SL (w W : World) (B : Nat) : Prop where
  b0 : W.heap[w.heap.size]? = some (.cells #[.int .i64 1, .int .i64 0] 24 (0, 0))
  b2 : W.heap[B]? = some (.cells #[.int .i64 2, .bool true, .string wkA, .string wkB] 31 (0, 0))
  below : Below w.heap.size w W
theorem SL.put {w W : World} {B : Nat} (h : (W.cell? ⟨w.heap.size, 0, none⟩ = some (.int .i64 1) ∧ W.cell? ⟨w.heap.size, 1, none⟩ = some (.int .i64 0)) ∧ SK w W) (hB : W.heap[B]? = some (.cells #[.int .i64 0, .bool false, .string ⟨#[]⟩, .string ⟨#[]⟩] 31)) (hle : w.heap.size ≤ B) :
    SL w ((((W.setCell ⟨B, 0, none⟩ (.int .i64 2)).setCell ⟨B, 1, none⟩ (.bool true)).setCell ⟨B, 2, none⟩ (.string wkA)).setCell ⟨B, 3, none⟩ (.string wkB)) B := by
  have hne : w.heap.size ≠ B := blk_ne h.2.b0 hB (by decide)
  exact ⟨blk_far (blk_far (blk_far (blk_far h.2.b0 (p := ⟨B, 0, none⟩) hne _) (p := ⟨B, 1, none⟩) hne _) (p := ⟨B, 2, none⟩) hne _) (p := ⟨B, 3, none⟩) hne _, put4 hB _ _ _ _, (((h.2.below.setCell (p := ⟨B, 0, none⟩) hle _).setCell (p := ⟨B, 1, none⟩) hle _).setCell (p := ⟨B, 2, none⟩) hle _).setCell (p := ⟨B, 3, none⟩) hle _⟩
theorem SL.new {w W : World} (h : (W.cell? ⟨w.heap.size, 0, none⟩ = some (.int .i64 1) ∧ W.cell? ⟨w.heap.size, 1, none⟩ = some (.int .i64 0)) ∧ SK w W) :
    SL w (W.alloc (.cells #[.int .i64 2, .bool true, .string wkA, .string wkB] 31)) W.heap.size := ⟨blk_alloc h.2.b0 _, blk_new _ _, below_alloc h.2.below _⟩
theorem SL.fin {w W : World} {B : Nat} (h : (W.cell? ⟨w.heap.size, 0, none⟩ = some (.int .i64 1) ∧ W.cell? ⟨w.heap.size, 1, none⟩ = some (.int .i64 0)) ∧ SK w W) (b2 : W.heap[B]? = some (.cells #[.int .i64 2, .bool true, .string wkA, .string wkB] 31 (0, 0))) : SL w W B := ⟨h.2.b0, b2, h.2.below⟩
theorem SL.next {w W W' : World} {B : Nat} (h : SL w W B) (hb : Below W.heap.size W W') : SL w W' B := ⟨blk_below h.b0 hb, blk_below h.b2 hb, below_step h.below hb⟩
structure SN (w W : World) (B D : Nat) : Prop where
  sl : SL w W B
  b3 : W.heap[D]? = some (.cells #[.int .i64 1, .int .i64 7, .string ⟨#[]⟩] 29 (0, 0))
theorem SN.start {w W : World} {B : Nat} (h : SL w W B) : SN w (W.alloc (.cells #[.int .i64 1, .int .i64 7, .string ⟨#[]⟩] 29)) B W.heap.size := ⟨h.next (below_alloc (Below.refl _ _) _), blk_new _ _⟩
theorem SN.drew {w W : World} {B D : Nat} (h : SN w W B D) : SN w W.drew B D := ⟨⟨h.sl.b0, h.sl.b2, h.sl.below.drew⟩, h.b3⟩
theorem SN.held {w W : World} {B D : Nat} (h : SN w W B D) : ((W.cell? ⟨w.heap.size, 0, none⟩ = some (.int .i64 1) ∧ W.cell? ⟨w.heap.size, 1, none⟩ = some (.int .i64 0)) ∧ (W.cell? ⟨B, 0, none⟩ = some (.int .i64 2) ∧ W.cell? ⟨B, 1, none⟩ = some (.bool true) ∧ W.cell? ⟨B, 2, none⟩ = some (.string wkA) ∧ W.cell? ⟨B, 3, none⟩ = some (.string wkB)) ∧ (W.cell? ⟨D, 0, none⟩ = some (.int .i64 1) ∧ W.cell? ⟨D, 1, none⟩ = some (.int .i64 7) ∧ W.cell? ⟨D, 2, none⟩ = some (.string ⟨#[]⟩))) ∧ SN w W B D := ⟨⟨⟨blk_cell h.sl.b0 0, blk_cell h.sl.b0 1⟩, ⟨blk_cell h.sl.b2 0, blk_cell h.sl.b2 1, blk_cell h.sl.b2 2, blk_cell h.sl.b2 3⟩, ⟨blk_cell h.b3 0, blk_cell h.b3 1, blk_cell h.b3 2⟩⟩, h⟩
theorem SN.fin {w W : World} {B D : Nat} (h : ((W.cell? ⟨w.heap.size, 0, none⟩ = some (.int .i64 1) ∧ W.cell? ⟨w.heap.size, 1, none⟩ = some (.int .i64 0)) ∧ (W.cell? ⟨B, 0, none⟩ = some (.int .i64 2) ∧ W.cell? ⟨B, 1, none⟩ = some (.bool true) ∧ W.cell? ⟨B, 2, none⟩ = some (.string wkA) ∧ W.cell? ⟨B, 3, none⟩ = some (.string wkB)) ∧ (W.cell? ⟨D, 0, none⟩ = some (.int .i64 1) ∧ W.cell? ⟨D, 1, none⟩ = some (.int .i64 7) ∧ W.cell? ⟨D, 2, none⟩ = some (.string ⟨#[]⟩))) ∧ SN w W B D) : Below w.heap.size w W := h.2.sl.below
theorem SN.after {w W W' : World} {B D : Nat} (h : ((W.cell? ⟨w.heap.size, 0, none⟩ = some (.int .i64 1) ∧ W.cell? ⟨w.heap.size, 1, none⟩ = some (.int .i64 0)) ∧ (W.cell? ⟨B, 0, none⟩ = some (.int .i64 2) ∧ W.cell? ⟨B, 1, none⟩ = some (.bool true) ∧ W.cell? ⟨B, 2, none⟩ = some (.string wkA) ∧ W.cell? ⟨B, 3, none⟩ = some (.string wkB)) ∧ (W.cell? ⟨D, 0, none⟩ = some (.int .i64 1) ∧ W.cell? ⟨D, 1, none⟩ = some (.int .i64 7) ∧ W.cell? ⟨D, 2, none⟩ = some (.string ⟨#[]⟩))) ∧ SN w W B D) (hb : Below W.heap.size W W') : ((W'.cell? ⟨w.heap.size, 0, none⟩ = some (.int .i64 1) ∧ W'.cell? ⟨w.heap.size, 1, none⟩ = some (.int .i64 0)) ∧ (W'.cell? ⟨B, 0, none⟩ = some (.int .i64 2) ∧ W'.cell? ⟨B, 1, none⟩ = some (.bool true) ∧ W'.cell? ⟨B, 2, none⟩ = some (.string wkA) ∧ W'.cell? ⟨B, 3, none⟩ = some (.string wkB)) ∧ (W'.cell? ⟨D, 0, none⟩ = some (.int .i64 1) ∧ W'.cell? ⟨D, 1, none⟩ = some (.int .i64 7) ∧ W'.cell? ⟨D, 2, none⟩ = some (.string ⟨#[]⟩))) ∧ SN w W' B D := SN.held ⟨h.2.sl.next hb, blk_below h.2.b3 hb⟩
theorem wk_row {W : World} {b : Nat} (h : W.heap[b]? = some (.cells #[.int .i64 1, .int .i64 5, .string ⟨#[]⟩, .int .i64 1, .int .i64 (-1), .string ⟨#[]⟩, .int .i64 1, .int .i64 7, .string ⟨#[]⟩] 29)) : Kd.C k29 W (some ⟨b, 0, none⟩) 3 wkL := by
  refine ⟨rfl, by decide, fun _ => ⟨_, rfl, fun j p hj => ?_⟩⟩
  match j, hj with
  | 0, hj =>
    obtain rfl := Option.some.inj hj
    exact ⟨_, rfl, k29_mk _ _, fun i u hu => by
      rw [add_plain, blk_cell h]
      match i, hu with
      | 0, hu => exact hu
      | 1, hu => exact hu
      | 2, hu => exact hu
      | n + 3, hu => cases hu⟩
  | 1, hj =>
    obtain rfl := Option.some.inj hj
    exact ⟨_, rfl, k29_mk _ _, fun i u hu => by
      rw [add_plain, blk_cell h]
      match i, hu with
      | 0, hu => exact hu
      | 1, hu => exact hu
      | 2, hu => exact hu
      | n + 3, hu => cases hu⟩
  | 2, hj =>
    obtain rfl := Option.some.inj hj
    exact ⟨_, rfl, k29_mk _ _, fun i u hu => by
      rw [add_plain, blk_cell h]
      match i, hu with
      | 0, hu => exact hu
      | 1, hu => exact hu
      | 2, hu => exact hu
      | n + 3, hu => cases hu⟩
attribute [local go_sem high] eqA29 eqA31
set_option maxHeartbeats 8000000 in
set_option maxRecDepth 100000 in
theorem marquetrylaw22_works.calls  (r : Bool) (w : World) (h : marquetrylaw22_works.f  = some r) :
    Calls Try.prog 11 #[] w fun e w' => e = .returned (.bool r) ∧ Below w.heap.size w w' := by
  obtain rfl := Option.some.inj h
  clear h
  go_enter Try.func11, Try.ntmps11
  go_wp2_with fail
  go_cut [2] from 5 (fun v2 wc => ∃ B, v2 = .pointer (some ⟨B, 0, none⟩) ∧ SL w wc B)
  case first =>
    go_region_held3 (fun W => (W.cell? ⟨w.heap.size, 0, none⟩ = some (.int .i64 1) ∧ W.cell? ⟨w.heap.size, 1, none⟩ = some (.int .i64 0)) ∧ SK w W) (first | with_reducible exact SK.start w | with_reducible exact SK.after (by assumption) hb5 | with_reducible exact SK.after (by assumption) hb4 | with_reducible exact SK.after (by assumption) hb3 | with_reducible exact SK.after (by assumption) hb2 | with_reducible exact SK.after (by assumption) (below_alloc (Below.refl _ _) _) | with_reducible exact SK.after (by assumption) (below_alloc (Below.refl _ _) _).drew | with_reducible exact SK.swap _ _ (by assumption) l5 | with_reducible exact SK.put (by assumption) hB (by omega)) (first | (go_at_call_of 29 (Value.int IntKind.i64 5); refine (marquetrylaw22_number.calls 5 _ _ _ _ rfl).mono ?_; rintro e w2 ⟨rfl, hb2⟩; (try (have hA2 := undrew hb2)); (first | (have hB : w2.heap[w.heap.size + 1]? = some (.cells #[.int .i64 0, .bool false, .string ⟨#[]⟩, .string ⟨#[]⟩] 31) := by (have hq := blk_below (blk_new (w.alloc (.cells #[.int .i64 1, .int .i64 0] 24)) (.cells #[.int .i64 0, .bool false, .string ⟨#[]⟩, .string ⟨#[]⟩] 31)) hA2; rw [World.size_alloc] at hq; exact hq)) | (have hB : w2.heap[w.heap.size + 1]? = some (.cells #[.int .i64 0, .bool false, .string ⟨#[]⟩, .string ⟨#[]⟩] 31) := by (have hq := blk_below (blk_new (w.alloc (.cells #[.int .i64 1, .int .i64 0] 24)).drew (.cells #[.int .i64 0, .bool false, .string ⟨#[]⟩, .string ⟨#[]⟩] 31)) hb2; exact hq)) | (have hB := blk_below (blk_new _ (.cells #[.int .i64 0, .bool false, .string ⟨#[]⟩, .string ⟨#[]⟩] 31)) hb2) | (have hB := blk_below hB hb2) | skip); have l2 := SK.lt (SK.after (by assumption) hb2)) | (go_at_call_of 29 (Value.int IntKind.i64 7); refine (marquetrylaw22_number.calls 7 _ _ _ _ rfl).mono ?_; rintro e w4 ⟨rfl, hb4⟩; (first | (have hB := blk_below (blk_new _ (.cells #[.int .i64 0, .bool false, .string ⟨#[]⟩, .string ⟨#[]⟩] 31)) hb4) | (have hB := blk_below hB hb4) | skip); have l4 := SK.lt (SK.after (by assumption) hb4)) | (go_at_call 29; refine (marquetrylaw22_number.calls (-1) _ _ _ _ rfl).mono ?_; rintro e w3 ⟨rfl, hb3⟩; (first | (have hB := blk_below (blk_new _ (.cells #[.int .i64 0, .bool false, .string ⟨#[]⟩, .string ⟨#[]⟩] 31)) hb3) | (have hB := blk_below hB hb3) | skip); have l3 := SK.lt (SK.after (by assumption) hb3)) | (go_at_call 12; refine (ranges_Of.calls 1 0 (some _) 3 wkL 2 2 true wkA wkB _ (wk_row ?hrow) (by decide) wkOf).mono ?_; (case hrow => exact (by first | with_reducible exact blk_new _ _ | with_reducible exact blk_alloc (blk_new _ _) _ | (have hh := blk_new (w4.alloc (.cells #[.int .i64 0, .bool false, .string ⟨#[]⟩, .string ⟨#[]⟩] 31)) (.cells #[.int .i64 1, .int .i64 5, .string ⟨#[]⟩, .int .i64 1, .int .i64 (-1), .string ⟨#[]⟩, .int .i64 1, .int .i64 7, .string ⟨#[]⟩] 29); rw [World.size_alloc] at hh; with_reducible exact hh))); rintro e w5 ⟨rfl, hb5⟩; have l5 := SK.lt (SK.after (by assumption) hb5); (first | (have hB := blk_below (blk_alloc (blk_new w4 (.cells #[.int .i64 0, .bool false, .string ⟨#[]⟩, .string ⟨#[]⟩] 31)) (.cells #[.int .i64 1, .int .i64 5, .string ⟨#[]⟩, .int .i64 1, .int .i64 (-1), .string ⟨#[]⟩, .int .i64 1, .int .i64 7, .string ⟨#[]⟩] 29)) hb5) | (have hh := blk_new (w4.alloc (.cells #[.int .i64 1, .int .i64 5, .string ⟨#[]⟩, .int .i64 1, .int .i64 (-1), .string ⟨#[]⟩, .int .i64 1, .int .i64 7, .string ⟨#[]⟩] 29)) (.cells #[.int .i64 0, .bool false, .string ⟨#[]⟩, .string ⟨#[]⟩] 31); rw [World.size_alloc] at hh; have hB := blk_below hh hb5) | (have hB := blk_below hB (below_step (below_alloc (Below.refl _ _) _) hb5)) | skip); (first | (have k0 := blk_cell hB 0; have k1 := blk_cell hB 1; have k2 := blk_cell hB 2; have k3 := blk_cell hB 3; have f0 := blk_frozen hB 0; have f1 := blk_frozen hB 1; have f2 := blk_frozen hB 2; have f3 := blk_frozen hB 3) | skip)))
    all_goals go_wp2_with fail
    all_goals go_meet
    all_goals first
      | exact ⟨_, rfl, SL.fin (by assumption) (put4 hB _ _ _ _)⟩
      | exact ⟨_, rfl, SL.fin (by assumption) (blk_new _ _)⟩
  case rest =>
    obtain ⟨B, rfl, hL⟩ := hcut
    have d0 := blk_cell hL.b0 0
    have d1 := blk_cell hL.b0 1
    have d2 := blk_cell hL.b2 3
    go_wp2_with fail
    refine (ranges_Read.calls _ _ _ _ _ _ _ _ wkRead).mono ?_
    rintro e w1 ⟨rfl, hb⟩
    have hL1 := hL.next hb
    clear d0 d1 d2 hL hb
    go_wp2_with fail
    have hN := SN.start hL1
    generalize hWN : (w1.alloc (.cells #[.int .i64 1, .int .i64 7, .string ⟨#[]⟩] 29)) = WN at *
    have hS := hN.drew.held
    clear hL1
    go_region_held3 (fun W => ((W.cell? ⟨w.heap.size, 0, none⟩ = some (.int .i64 1) ∧ W.cell? ⟨w.heap.size, 1, none⟩ = some (.int .i64 0)) ∧ (W.cell? ⟨B, 0, none⟩ = some (.int .i64 2) ∧ W.cell? ⟨B, 1, none⟩ = some (.bool true) ∧ W.cell? ⟨B, 2, none⟩ = some (.string wkA) ∧ W.cell? ⟨B, 3, none⟩ = some (.string wkB)) ∧ (W.cell? ⟨w1.heap.size, 0, none⟩ = some (.int .i64 1) ∧ W.cell? ⟨w1.heap.size, 1, none⟩ = some (.int .i64 7) ∧ W.cell? ⟨w1.heap.size, 2, none⟩ = some (.string ⟨#[]⟩))) ∧ SN w W B w1.heap.size) (first | with_reducible exact hS | with_reducible exact SN.after (by assumption) hb | assumption) (first | (go_at_call_of 29 (Value.int IntKind.i64 7); refine (marquetrylaw22_number.calls 7 _ _ _ _ rfl).mono ?_; rintro e w' ⟨rfl, hb⟩) | (go_at_call_of 29 (Value.int IntKind.i64 8); refine (marquetrylaw22_number.calls 8 _ _ _ _ rfl).mono ?_; rintro e w' ⟨rfl, hb⟩) | (go_at_call_of 29 (Value.int IntKind.i64 0); refine (marquetrylaw22_number.calls 0 _ _ _ _ rfl).mono ?_; rintro e w' ⟨rfl, hb⟩) | (go_at_call 15; refine (marquetrylaw22_num.calls 0 _ _ rfl).mono ?_; rintro e w' ⟨rfl, hd⟩; have hb := hd.below) | (go_at_call_of 22 (Value.agg #[Value.int IntKind.i64 1, Value.int IntKind.i64 7, Value.string ⟨#[]⟩]); refine (ranges_May.calls _ _ _ _ _ _ _ _ _ _ _ _ _ wkMay7).mono ?_; rintro e w' ⟨rfl, hb⟩) | (go_at_call_of 22 (Value.agg #[Value.int IntKind.i64 1, Value.int IntKind.i64 8, Value.string ⟨#[]⟩]); refine (ranges_May.calls _ _ _ _ _ _ _ _ _ _ _ _ _ wkMay8).mono ?_; rintro e w' ⟨rfl, hb⟩) | (go_at_call_of 22 (Value.agg #[Value.int IntKind.i64 1, Value.int IntKind.i64 0, Value.string ⟨#[]⟩]); refine (ranges_May.calls _ _ _ _ _ _ _ _ _ _ _ _ _ wkMay0).mono ?_; rintro e w' ⟨rfl, hb⟩) | (go_at_call 16; refine (ranges_Check.calls _ _ _ _ _ _ _ _ wkCheck).mono ?_; rintro e w' ⟨rfl, hb⟩))
    go_wp2_with fail
    go_ret
    exact ⟨rfl, SN.fin (by assumption)⟩


end Go.Proofs.Ytncehlbhjoejhaa.H
end
