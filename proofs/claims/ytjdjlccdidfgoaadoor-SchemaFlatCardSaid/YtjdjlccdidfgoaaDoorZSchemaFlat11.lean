/- Texts of the claim, packed: H29, H30, H31. -/
import Derived.Laws.EntriesVeiled
import Derived.Laws.NewBlocks
import Derived.Lib.Hide
import Derived.LoopIn
import Derived.LoopNIn
import Derived.OwnWalkIn
import Derived.RangeFuncBound
import Derived.RangeFuncBox
import Derived.RangeFuncCalls
import Derived.RangeFuncFrom
import Derived.RangeFuncLeaves
import Derived.RangeFuncNested
import Derived.RangeFuncWrites
import Derived.Shelf.Abstract
import Derived.Shelf.RegionOpen
import Derived.TacticsInMore
import Derived.Test.YtjdjlccdidfgoaaDoorZSchemaFlat6
section
-- Laid by this session's hprint.py, out of the kit's print.py and texts of the session. Not trusted: Lean checks it.
namespace Go.Proofs.YtjdjlccdidfgoaaDoor.H
open Go.RowKit Go.Proofs.YtjdjlccdidfgoaaDoorW.PrintWords Go.Proofs.YtjdjlccdidfgoaaDoorW.PrintLast Go.Proofs.YtjdjlccdidfgoaaDoorW.PrintMore
attribute [local go_sem] max2_int min2_int max_two min_two max_three min_three max_four min_four   -- for this text's walks alone
set_option linter.unusedVariables false
set_option linter.unusedSimpArgs false

-- OVPART Derived.RangeFuncNested Derived.RangeFuncBound Derived.RangeFuncCalls Derived.RangeFuncLeaves Derived.RangeFuncFrom Derived.RangeFuncWrites Derived.Shelf.Abstract Derived.Shelf.RegionOpen Derived.OwnWalkIn Derived.TacticsInMore Derived.LoopNIn Derived.LoopIn Derived.Lib.Hide Derived.Laws.NewBlocks Derived.Laws.EntriesVeiled Derived.RangeFuncBox
/-! ### schema_leaves: function 42 -/
open Go.Shelf
attribute [local go_sem] Oper.semAt_some
/-- The leaves of nodes, behind others. -/
def leavesL : List S62 → List ByteArray → List Int → Int → Int → List S52
  | [], _, _, _, _ => []
  | ⟨a, b, c, d, e, k⟩ :: xs, path, steps, rep, dfn =>
    (if c = true then leavesL k (path ++ [a]) (steps ++ [b]) (if b = 2 then rep + 1 else rep) (if b = 0 then dfn else dfn + 1)
     else [⟨path ++ [a], steps ++ [b], (if b = 2 then rep + 1 else rep), (if b = 0 then dfn else dfn + 1), ⟨d, e⟩⟩]) ++ leavesL xs path steps rep dfn
/-- A leaf's value: its two slices and its numbers. -/
structure LV where
  b0 : Nat
  n0 : Nat
  c0 : Nat
  b1 : Nat
  n1 : Nat
  c1 : Nat
  r : Int
  d : Int
  k : Int
  s : Int
def LV.cells (x : LV) : List Value := [.slice (some ⟨x.b0, 0, none⟩) x.n0 x.c0, .slice (some ⟨x.b1, 0, none⟩) x.n1 x.c1, .int .i64 x.r, .int .i64 x.d, .int .i64 x.k, .int .i64 x.s]
/-- What a leaf's value reads as. -/
structure LvAt (base : Nat) (f : S52) (x : LV) (W : World) : Prop where
  r : x.r = f.f2
  d : x.d = f.f3
  k : x.k = f.f4.f0
  s : x.s = f.f4.f1
  n0 : x.n0 = f.f0.length
  n1 : x.n1 = f.f1.length
  c0 : x.n0 ≤ x.c0
  c1 : x.n1 ≤ x.c1
  m0 : x.c0 ≤ maxLen
  m1 : x.c1 ≤ maxLen
  g0 : base ≤ x.b0
  g1 : base ≤ x.b1
  h0 : ∃ cur : Array Value, W.heap[x.b0]? = some (.cells cur 9 (0, 0)) ∧ cur.toList.take x.n0 = f.f0.map Value.string ∧ cur.size = x.c0
  h1 : ∃ cur : Array Value, W.heap[x.b1]? = some (.cells cur 40 (0, 0)) ∧ cur.toList.take x.n1 = f.f1.map (Value.int .i64) ∧ cur.size = x.c1
theorem LvAt.kept {base : Nat} {f : S52} {x : LV} {W W' : World} {row : Option Nat} (h : LvAt base f x W) (hg : W.grownBy W' row) (hr : ∀ g, row = some g → ∃ o, W.heap[g]? = some o ∧ ∀ cs fr, o ≠ .cells cs 9 fr ∧ o ≠ .cells cs 40 fr) : LvAt base f x W' := by
  obtain ⟨cur0, e0, p0, q0⟩ := h.h0
  obtain ⟨cur1, e1, p1, q1⟩ := h.h1
  have k0 : some x.b0 ≠ row := fun e => by
    obtain ⟨o, ho, hn⟩ := hr _ e.symm
    rw [e0] at ho
    exact (hn _ _).1 (Option.some.inj ho).symm
  have k1 : some x.b1 ≠ row := fun e => by
    obtain ⟨o, ho, hn⟩ := hr _ e.symm
    rw [e1] at ho
    exact (hn _ _).2 (Option.some.inj ho).symm
  exact { h with
    h0 := ⟨cur0, (hg.block _ (Array.getElem?_eq_some_iff.1 e0).1 k0).trans e0, p0, q0⟩
    h1 := ⟨cur1, (hg.block _ (Array.getElem?_eq_some_iff.1 e1).1 k1).trans e1, p1, q1⟩ }
/-- x's blocks lie behind y's. -/
structure LvFar (y x : LV) : Prop where
  a : y.b0 < x.b0
  b : y.b0 < x.b1
  c : y.b1 < x.b0
  d : y.b1 < x.b1
/-- What value comes next, and what it reads as. -/
def RdL (base : Nat) (L : List S52) (pre : List LV) (x : LV) (W : World) : Prop := (∃ h : pre.length < L.length, LvAt base L[pre.length] x W) ∧ ∀ y ∈ pre, LvFar y x
theorem RdL.kept {base : Nat} {L : List S52} {pre : List LV} {x : LV} {W W' : World} {row : Option Nat} (h : RdL base L pre x W) (hg : W.grownBy W' row) (hr : ∀ g, row = some g → ∃ o, W.heap[g]? = some o ∧ ∀ cs fr, o ≠ .cells cs 9 fr ∧ o ≠ .cells cs 40 fr) : RdL base L pre x W' := by
  obtain ⟨⟨h1, h2⟩, h3⟩ := h
  exact ⟨⟨h1, h2.kept hg hr⟩, h3⟩
/-- The values so far: what each reads as; no two lead to one block. -/
structure lvAll (base : Nat) (L : List S52) (pre : List LV) (W : World) : Prop where
  at_ : ∀ (i : Nat) (hi : i < pre.length) (hl : i < L.length), LvAt base L[i] pre[i] W
  far : ∀ (i j : Nat) (hi : i < j) (hj : j < pre.length), LvFar (pre[i]'(Nat.lt_trans hi hj)) pre[j]
theorem lvAll.nil (base : Nat) (L : List S52) (W : World) : lvAll base L [] W := ⟨fun i hi => by simp at hi, fun i j hi hj => by simp at hj⟩
theorem lvAll.kept {base : Nat} {L : List S52} {pre : List LV} {W W' : World} (h : lvAll base L pre W) (hk : ∀ {f : S52} {y : LV}, LvAt base f y W → LvAt base f y W') : lvAll base L pre W' := ⟨fun i hi hl => hk (h.at_ i hi hl), h.far⟩
/-- Block k is neither the collector's box nor the row that its slice lies in. -/
structure Free_ (NB : Nat) (W : World) (k : Nat) : Prop where
  ne : k ≠ NB
  box : ∃ o, W.heap[NB]? = some o ∧ o.isCells = true
  row : ∀ A n c, W.cell? ⟨NB, 0, none⟩ = some (.slice (some A) n c) → A.block ≠ k
/-- What a collector keeps: all cells but its box and its row; its row stays its row or is a new one. -/
structure KeepC (n₀ NB : Nat) (W W' : World) : Prop where
  below : Below n₀ W W'
  size : W.heap.size ≤ W'.heap.size
  cells : ∀ k o, W.heap[k]? = some o → o.isCells = true → Free_ NB W k → W'.heap[k]? = some o
  row : ∀ o, W.heap[NB]? = some o → o.isCells = true → (∃ o', W'.heap[NB]? = some o' ∧ o'.isCells = true) ∧ ∀ A n c, W'.cell? ⟨NB, 0, none⟩ = some (.slice (some A) n c) → (W.heap.size ≤ A.block ∧ A.block < W'.heap.size) ∨ ∃ A' n' c', W.cell? ⟨NB, 0, none⟩ = some (.slice (some A') n' c') ∧ A'.block = A.block
theorem Free_.next {n₀ NB : Nat} {W W' : World} {k : Nat} (h : Free_ NB W k) (hk : k < W.heap.size) (hc : KeepC n₀ NB W W') : Free_ NB W' k := by
  obtain ⟨o, ho, hoc⟩ := h.box
  obtain ⟨hb, hr⟩ := hc.row o ho hoc
  refine ⟨h.ne, hb, fun A n c hA => ?_⟩
  rcases hr A n c hA with hr | ⟨A', n', c', hr, e⟩
  · omega
  · rw [← e]
    exact h.row A' n' c' hr
theorem KeepC.refl (n₀ NB : Nat) (W : World) : KeepC n₀ NB W W := ⟨Below.refl _ _, Nat.le_refl _, fun _ _ h _ _ => h, fun o ho hc => ⟨⟨o, ho, hc⟩, fun A n c h => .inr ⟨A, n, c, h, rfl⟩⟩⟩
theorem KeepC.trans {n₀ NB : Nat} {A B C : World} (h : KeepC n₀ NB A B) (k : KeepC n₀ NB B C) : KeepC n₀ NB A C :=
  ⟨h.below.trans k.below, Nat.le_trans h.size k.size, fun j o hj hc hf => k.cells j o (h.cells j o hj hc hf) hc (hf.next (Array.getElem?_eq_some_iff.1 hj).1 h), fun o ho hoc => by
    obtain ⟨⟨o2, ho2, hoc2⟩, hr2⟩ := h.row o ho hoc
    obtain ⟨hb3, hr3⟩ := k.row o2 ho2 hoc2
    refine ⟨hb3, fun D n c hD => ?_⟩
    rcases hr3 D n c hD with hr | ⟨A', n', c', hr, e⟩
    · exact .inl ⟨Nat.le_trans h.size hr.1, hr.2⟩
    · rcases hr2 A' n' c' hr with hr2 | ⟨A2, n2, c2, hr2, e2⟩
      · exact .inl (by rw [← e]; exact ⟨hr2.1, Nat.lt_of_lt_of_le hr2.2 k.size⟩)
      · exact .inr ⟨A2, n2, c2, hr2, e2.trans e⟩⟩
theorem KeepC.alloc {n₀ NB : Nat} {A B : World} (h : KeepC n₀ NB A B) (hn : n₀ ≤ A.heap.size) (o : Obj) : KeepC n₀ NB A (B.alloc o) := by
  refine h.trans ⟨(Below.refl n₀ B).alloc (Nat.le_trans hn h.size) o, by rw [World.size_alloc]; omega, fun k x hk _ _ => blk_alloc hk o, fun x hx hc => ⟨⟨x, blk_alloc hx o, hc⟩, fun D n c hD => .inr ⟨D, n, c, ?_, rfl⟩⟩⟩
  rw [← hD]
  exact (World.cell?_of_block (w := B) ((blk_alloc hx o).trans hx.symm)).symm
end Go.Proofs.YtjdjlccdidfgoaaDoor.H
end
section
-- Laid by this session's hprint.py, out of the kit's print.py and texts of the session. Not trusted: Lean checks it.
namespace Go.Proofs.YtjdjlccdidfgoaaDoor.H
open Go.RowKit Go.Proofs.YtjdjlccdidfgoaaDoorW.PrintWords Go.Proofs.YtjdjlccdidfgoaaDoorW.PrintLast Go.Proofs.YtjdjlccdidfgoaaDoorW.PrintMore
attribute [local go_sem] max2_int min2_int max_two min_two max_three min_three max_four min_four   -- for this text's walks alone
set_option linter.unusedVariables false
set_option linter.unusedSimpArgs false

-- OVPART Derived.RangeFuncFrom Derived.RangeFuncBox
/-! ### api_Leaf_58: function 58 -/
open Go.Shelf
attribute [local go_sem] Oper.semAt_some
end Go.Proofs.YtjdjlccdidfgoaaDoor.H
end
section
-- Laid by this session's hprint.py, out of the kit's print.py and texts of the session. Not trusted: Lean checks it.
namespace Go.Proofs.YtjdjlccdidfgoaaDoor.H
open Go.RowKit Go.Proofs.YtjdjlccdidfgoaaDoorW.PrintWords Go.Proofs.YtjdjlccdidfgoaaDoorW.PrintLast Go.Proofs.YtjdjlccdidfgoaaDoorW.PrintMore
attribute [local go_sem] max2_int min2_int max_two min_two max_three min_three max_four min_four   -- for this text's walks alone
set_option linter.unusedVariables false
set_option linter.unusedSimpArgs false

-- OVPART Derived.Lib.Hide
/-! ### api_Leaf_41: function 41 -/
end Go.Proofs.YtjdjlccdidfgoaaDoor.H
end
