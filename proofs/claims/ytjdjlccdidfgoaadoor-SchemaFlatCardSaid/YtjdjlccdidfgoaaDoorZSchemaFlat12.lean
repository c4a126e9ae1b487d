/- Texts of the claim, packed: H32. -/
import Derived.Deep.RegionHeld3
import Derived.Lib.Hide
import Derived.LoopIn
import Derived.OwnWalkIn
import Derived.RangeFuncBound
import Derived.RangeFuncBox
import Derived.RangeFuncCalls
import Derived.RangeFuncFrom
import Derived.RangeFuncLeaves
import Derived.RangeFuncNested
import Derived.RangeFuncWrites
import Derived.TacticsInMore
import Derived.Test.YtjdjlccdidfgoaaDoorZSchemaFlat6
import Derived.Test.YtjdjlccdidfgoaaDoorZSchemaFlat10
import Derived.Test.YtjdjlccdidfgoaaDoorZSchemaFlat11
section
-- Laid by this session's hprint.py, out of the kit's print.py and texts of the session. Not trusted: Lean checks it.
namespace Go.Proofs.YtjdjlccdidfgoaaDoor.H
open Go.RowKit Go.Proofs.YtjdjlccdidfgoaaDoorW.PrintWords Go.Proofs.YtjdjlccdidfgoaaDoorW.PrintLast Go.Proofs.YtjdjlccdidfgoaaDoorW.PrintMore
attribute [local go_sem] max2_int min2_int max_two min_two max_three min_three max_four min_four   -- for this text's walks alone
set_option linter.unusedVariables false
set_option linter.unusedSimpArgs false

-- OVPART Derived.RangeFuncFrom Derived.RangeFuncBox Derived.RangeFuncWrites Derived.RangeFuncNested Derived.RangeFuncBound Derived.RangeFuncCalls Derived.RangeFuncLeaves Derived.Deep.RegionHeld3 Derived.Lib.Hide Derived.TacticsInMore Derived.LoopIn Derived.OwnWalkIn
/-! ### schema_leaves_1: function 59 -/
open Go.Shelf
attribute [local go_sem] Oper.semAt_some
theorem KeepC.of_below {n₀ NB : Nat} {W W' : World} (hn : n₀ ≤ W.heap.size) (h : Below W.heap.size W W') : KeepC n₀ NB W W' :=
  ⟨h.mono hn, h.size, fun k o hk _ _ => blk_below hk h, fun o ho hc => ⟨⟨o, blk_below ho h, hc⟩, fun A n c hA => .inr ⟨A, n, c, by
    rw [← hA]
    exact (World.cell?_of_block (w := W) ((blk_below ho h).trans ho.symm)).symm, rfl⟩⟩⟩
theorem KeepC.grown {n₀ NB : Nat} {A B C : World} {row : Option Nat} (h : KeepC n₀ NB A B) (hn : n₀ ≤ A.heap.size) (hg : B.grownBy C row) (hr : ∀ r, row = some r → n₀ ≤ r ∧ ∃ o : Obj, B.heap[r]? = some o ∧ o.isCells = false) : KeepC n₀ NB A C := by
  have hsame : ∀ (k : Nat) (o : Obj), B.heap[k]? = some o → o.isCells = true → C.heap[k]? = some o := fun k o hk hc =>
    (hg.block k (Array.getElem?_eq_some_iff.1 hk).1 (fun e => by
      obtain ⟨_, o', ho', hc'⟩ := hr k e.symm
      rw [hk] at ho'
      rw [← Option.some.inj ho'] at hc'
      rw [hc] at hc'
      cases hc')).trans hk
  refine h.trans ⟨(Below.refl n₀ B).grown hg (Nat.le_trans hn h.size) (fun k e => (hr k e).1), hg.size, fun k o hk hc _ => hsame k o hk hc, fun o ho hc => ⟨⟨o, hsame NB o ho hc, hc⟩, fun D n c hD => .inr ⟨D, n, c, ?_, rfl⟩⟩⟩
  rw [← hD]
  exact (World.cell?_of_block (w := B) ((hsame NB o ho hc).trans ho.symm)).symm
/-- The collector's box is there, and its row is none that is to come. -/
structure RowIn (NB : Nat) (W : World) : Prop where
  box : ∃ o, W.heap[NB]? = some o ∧ o.isCells = true
  row : ∀ A n c, W.cell? ⟨NB, 0, none⟩ = some (.slice (some A) n c) → A.block < W.heap.size
theorem RowIn.next {n₀ NB : Nat} {W W' : World} (h : RowIn NB W) (hc : KeepC n₀ NB W W') : RowIn NB W' := by
  obtain ⟨o, ho, hoc⟩ := h.box
  obtain ⟨hb, hr⟩ := hc.row o ho hoc
  refine ⟨hb, fun A n c hA => ?_⟩
  rcases hr A n c hA with hr | ⟨A', n', c', hr, e⟩
  · exact hr.2
  · have := h.row A' n' c' hr
    have := hc.size
    omega
theorem RowIn.below {NB : Nat} {W W' : World} (h : RowIn NB W) (hb : Below W.heap.size W W') : RowIn NB W' := h.next (KeepC.of_below (n₀ := 0) (Nat.zero_le _) hb)
theorem Free_.below {NB k : Nat} {W W' : World} (h : Free_ NB W k) (hk : k < W.heap.size) (hb : Below W.heap.size W W') : Free_ NB W' k := h.next hk (KeepC.of_below (n₀ := 0) (Nat.zero_le _) hb)
/-- A row of one's own that the collector leaves alone. -/
structure RdS (T : TypeId) (NB : Nat) (v : Value) (xs : List Value) (W : World) : Prop where
  own : W.ownsRow 0 T 1 v xs.length xs
  free : ∀ k, v.ownBlock = some k → Free_ NB W k
theorem RdS.next {T : TypeId} {n₀ NB : Nat} {v : Value} {xs : List Value} {W W' : World} (h : RdS T NB v xs W) (hc : KeepC n₀ NB W W') : RdS T NB v xs W' :=
  ⟨own_move h.own (fun k hk => by
    obtain ⟨cells, hcl⟩ := own_typed h.own k hk
    exact (hc.cells k _ hcl rfl (h.free k hk)).trans hcl.symm), fun k hk => (h.free k hk).next (own_lt h.own k hk) hc⟩
theorem RdS.below {T : TypeId} {NB : Nat} {v : Value} {xs : List Value} {W W' : World} (h : RdS T NB v xs W) (hb : Below W.heap.size W W') : RdS T NB v xs W' := h.next (KeepC.of_below (n₀ := 0) (Nat.zero_le _) hb)
mutual
/-- How many nodes there are. -/
def numNs : List S62 → Nat
  | [] => 0
  | ⟨_, _, _, _, _, k⟩ :: xs => 1 + numNs k + numNs xs
end
theorem numNs_cons (x : S62) (xs : List S62) : numNs (x :: xs) = 1 + numNs x.f5 + numNs xs := by
  cases x
  rw [numNs]
theorem numNs_app (a b : List S62) : numNs (a ++ b) = numNs a + numNs b := by
  induction a with
  | nil => rw [List.nil_append, numNs]; omega
  | cons x a ih => rw [List.cons_append, numNs_cons, numNs_cons, ih]; omega
/-- The blocks of values that have been are there. -/
def AllLt (ys : List LV) (n : Nat) : Prop := ∀ y ∈ ys, y.b0 < n ∧ y.b1 < n
theorem AllLt.mono {ys : List LV} {n m : Nat} (h : AllLt ys n) (hm : n ≤ m) : AllLt ys m := fun y hy => ⟨Nat.lt_of_lt_of_le (h y hy).1 hm, Nat.lt_of_lt_of_le (h y hy).2 hm⟩
theorem AllLt.snoc {ys : List LV} {x : LV} {n base : Nat} {f : S52} {W : World} (h : AllLt ys n) (hx : LvAt base f x W) (hm : n ≤ W.heap.size) : AllLt (ys ++ [x]) W.heap.size := by
  intro y hy
  rcases List.mem_append.1 hy with hy | hy
  · exact h.mono hm y hy
  · obtain rfl := List.mem_singleton.1 hy
    obtain ⟨_, e0, _⟩ := hx.h0
    obtain ⟨_, e1, _⟩ := hx.h1
    exact ⟨blk_lt e0, blk_lt e1⟩
theorem AllLt.far {ys : List LV} {x : LV} {n : Nat} {f : S52} {W : World} (h : AllLt ys n) (hx : LvAt n f x W) : ∀ y ∈ ys, LvFar y x := fun y hy => by
  have h1 := h y hy
  have h2 := hx.g0
  have h3 := hx.g1
  exact ⟨by omega, by omega, by omega, by omega⟩
/-- A step of the chain, as a region's walk wants it. -/
def LatEv (P : Program) (ops : Array Oper) (Q : Exit → Act → World → Prop) (i : Nat) (I I' : Act → World → Prop) : Prop :=
  ∃ o, ops[i]? = some o ∧ ∀ a w, I a w → ∀ K' : Act → World → Prop, Shut (∀ a' w', I' a' w' → K' a' w') → if Region.wanted o (yielded ops a.tmps) = true then Oper.wp P o a w K' Q else K' (a.put o.dst undef) w
theorem LatEv.op {P : Program} {ops : Array Oper} {Q : Exit → Act → World → Prop} {i : Nat} {I I' : Act → World → Prop} (h : LatEv P ops Q i I I') {S : World → Prop} {fuel : Nat} {listed : Array Bool} {a : Act} {w : World} (hI : I a w)
    (hS : ∀ a w, I' a w → S w) (hk : ∀ a w, I' a w → wpAnyH P .any ops Q S fuel listed a w) : wpOp P ops Q i (fun a' w' => S w' ∧ wpAnyH P .any ops Q S fuel listed a' w') a w := by
  obtain ⟨o, ho, h⟩ := h
  exact wpOp_step ho (fun K' hK => h a w hI K' (fun a' w' hI' => hK a' w' ⟨hS a' w' hI', hk a' w' hI'⟩))
/-- What is there when so much of the region has come. -/
structure R4 (Wb : World) (path : List ByteArray) (nm : ByteArray) (steps : List Int) (rp : Int) (rd dd : Value) (p : Nat) (b5 b12 b19 : Bool) (v16 v19 v20 v23 v26 v27 v32 v6 : Value) (W : World) : Prop where
  below : Below Wb.heap.size Wb W
  q16 : p = 1 → W.ownsRow Wb.heap.size 9 1 v16 path.length (encs Value.string path)
  q19 : b5 = true → p < 2 → ∃ g, v19 = .slice (some ⟨g, 0, none⟩) 1 1 ∧ W.heap[g]? = some (.cells #[.string nm] 9 (0, 0))
  q20 : 2 ≤ p → W.ownsRow Wb.heap.size 9 1 v20 (path.length + 1) (encs Value.string path ++ [.string nm])
  q23 : p = 3 → W.ownsRow Wb.heap.size 40 1 v23 steps.length (encs (Value.int .i64) steps)
  q26 : b12 = true → p < 4 → ∃ g, v26 = .slice (some ⟨g, 0, none⟩) 1 1 ∧ W.heap[g]? = some (.cells #[.int .i64 rp] 40 (0, 0))
  q27 : 4 ≤ p → W.ownsRow Wb.heap.size 40 1 v27 (steps.length + 1) (encs (Value.int .i64) steps ++ [.int .i64 rp])
  q32 : 5 ≤ p → v32 = .agg #[v20, v27, rd, dd, .int .i64 0, .int .i64 0]
  q6 : b19 = true → ∃ g, v6 = .pointer (some ⟨g, 0, none⟩) ∧ Wb.heap.size ≤ g ∧ W.heap[g]? = some (.cells (if p = 6 then #[v20, v27, rd, dd, .int .i64 0, .int .i64 0] else #[.slice none 0 0, .slice none 0 0, .int .i64 0, .int .i64 0, .int .i64 0, .int .i64 0]) 52 (0, 0))
section
variable {Wb W W' : World} {path : List ByteArray} {nm : ByteArray} {steps : List Int} {rp : Int} {rd dd : Value} {p : Nat} {b5 b12 b19 : Bool} {v16 v19 v20 v23 v26 v27 v32 v6 : Value}
theorem R4.next (h : R4 Wb path nm steps rp rd dd p b5 b12 b19 v16 v19 v20 v23 v26 v27 v32 v6 W) (hb : Below W.heap.size W W') : R4 Wb path nm steps rp rd dd p b5 b12 b19 v16 v19 v20 v23 v26 v27 v32 v6 W' :=
  ⟨below_step h.below hb, fun e => (h.q16 e).kept (grown_of_below hb none) (by cases v16.ownBlock <;> simp), fun e f => by obtain ⟨g, h1, h2⟩ := h.q19 e f; exact ⟨g, h1, blk_below h2 hb⟩, fun e => (h.q20 e).kept (grown_of_below hb none) (by cases v20.ownBlock <;> simp), fun e => (h.q23 e).kept (grown_of_below hb none) (by cases v23.ownBlock <;> simp),
    fun e f => by obtain ⟨g, h1, h2⟩ := h.q26 e f; exact ⟨g, h1, blk_below h2 hb⟩, fun e => (h.q27 e).kept (grown_of_below hb none) (by cases v27.ownBlock <;> simp), h.q32, fun e => by obtain ⟨g, h1, h2, h3⟩ := h.q6 e; exact ⟨g, h1, h2, blk_below h3 hb⟩⟩
/-- A row is written, or grown into a new one: what lies in blocks of another type stays. -/
theorem keep_type {T T' : TypeId} {base n g : Nat} {fr : Nat × Nat} {v : Value} {xs : List Value} {cs : Array Value} (hg : W.grownBy W' v.ownBlock) (ho : W.ownsRow base T 1 v n xs) (hT : T ≠ T') (h : W.heap[g]? = some (.cells cs T' fr)) : W'.heap[g]? = some (.cells cs T' fr) :=
  (hg.block g (blk_lt h) (fun e => by
    obtain ⟨c, hc⟩ := own_typed ho g e.symm
    rw [hc] at h
    injection h with h
    injection h with _ h
    exact hT h)).trans h
theorem R4.e2 (h : R4 Wb path nm steps rp rd dd 0 b5 b12 b19 v16 v19 v20 v23 v26 v27 v32 v6 W) (hb : Below W.heap.size W W') {v : Value} (ho : W'.ownsRow W.heap.size 9 1 v path.length (encs Value.string path)) : R4 Wb path nm steps rp rd dd 1 b5 b12 b19 v v19 v20 v23 v26 v27 v32 v6 W' :=
  have k := h.next hb
  { k with q16 := fun _ => own_weaken ho h.below.size, q19 := fun e _ => k.q19 e (by omega), q20 := fun e => by omega, q23 := fun e => by omega, q26 := fun e _ => k.q26 e (by omega), q27 := fun e => by omega, q32 := fun e => by omega, q6 := k.q6 }
theorem R4.e5 (h : R4 Wb path nm steps rp rd dd p false b12 b19 v16 v19 v20 v23 v26 v27 v32 v6 W) : R4 Wb path nm steps rp rd dd p true b12 b19 v16 (.slice (some ⟨W.heap.size, 0, none⟩) 1 1) v20 v23 v26 v27 v32 v6 (W.alloc (.cells #[.string nm] 9)) :=
  { h.next (below_alloc (Below.refl _ _) _) with q19 := fun _ _ => ⟨_, rfl, blk_new W _⟩ }
theorem R4.e6 (h : R4 Wb path nm steps rp rd dd 1 true b12 b19 v16 v19 v20 v23 v26 v27 v32 v6 W) (hg : W.grownBy W' v16.ownBlock) {v : Value} (ho : W'.ownsRow Wb.heap.size 9 1 v (path.length + 1) (encs Value.string path ++ [.string nm])) : R4 Wb path nm steps rp rd dd 2 true b12 b19 v16 v19 v v23 v26 v27 v32 v6 W' :=
  have o := h.q16 rfl
  { below := h.below.grown hg h.below.size (fun k e => own_base o k e), q16 := fun e => by omega, q19 := fun _ e => by omega, q20 := fun _ => ho, q23 := fun e => by omega, q26 := fun e _ => by
      obtain ⟨g, h1, h2⟩ := h.q26 e (by omega)
      exact ⟨g, h1, keep_type hg o (by decide) h2⟩
    q27 := fun e => by omega, q32 := fun e => by omega, q6 := fun e => by
      obtain ⟨g, h1, h2, h3⟩ := h.q6 e
      exact ⟨g, h1, h2, keep_type hg o (by decide) h3⟩ }
theorem R4.e9 (h : R4 Wb path nm steps rp rd dd 2 true b12 b19 v16 v19 v20 v23 v26 v27 v32 v6 W) (hb : Below W.heap.size W W') {v : Value} (ho : W'.ownsRow W.heap.size 40 1 v steps.length (encs (Value.int .i64) steps)) : R4 Wb path nm steps rp rd dd 3 true b12 b19 v16 v19 v20 v v26 v27 v32 v6 W' :=
  have k := h.next hb
  { k with q16 := fun e => by omega, q19 := fun _ e => by omega, q20 := fun _ => k.q20 (by omega), q23 := fun _ => own_weaken ho h.below.size, q26 := fun e _ => k.q26 e (by omega), q27 := fun e => by omega, q32 := fun e => by omega, q6 := k.q6 }
end
theorem at_dropL {ops : Array Oper} {i : Nat} {oi : Oper} {rest : List Oper} (h : ops.toList.drop i = oi :: rest) : ops[i]? = some oi := by
  rw [← Array.getElem?_toList]
  have e : (ops.toList.drop i)[0]? = some oi := by rw [h]; rfl
  simpa using e
theorem tkL_ {P : Program} {ops : Array Oper} {Q : Exit → Act → World → Prop} {S : World → Prop} {md : Region.Mode} (i : Nat) (N : Option Tmp) {oi : Oper} {rest : List Oper} {v : Value} {fuel : Nat} {listed : Array Bool} {a : Act} {w : World} (hl : ops.toList.drop i = oi :: rest) (hN : oi.dst = N)
    (hv : ∀ w, S w → (execOp a.eval oi).run P w = .ok (.value v) w) (h : wpAnyH P md ops Q S fuel (listed.setIfInBounds i true) (a.put N v) w)
    (hs : Region.noSelect ops = true := by kernel_rfl) (hf : Region.free md ops listed i = true := by kernel_rfl) (hr : (Region.ready md ops listed).contains i = true := by kernel_rfl)
    (hw : Region.wanted oi (yielded ops a.tmps) = true := by rfl) (hS : S w := by assumption) (hQ : ∀ c a w, Q (.panic c) (a.put N v) w → Q (.panic c) a w := by exact fun _ _ _ h => h) : wpAnyH P md ops Q S (fuel + 1) listed a w := by
  subst hN
  exact wpAnyH_take (at_dropL hl) hs hf hr hQ (.inl ⟨hw, hv⟩) hS h
/-- The leaf's block behind the region, and the node's. -/
structure T4 (Wb : World) (nb : Nat) (nc : Array Value) (g6 : Nat) (xs ys : List Value) (n20 n27 : Nat) (v20 v27 : Value) (r d k s : Int) (W : World) : Prop where
  below : Below Wb.heap.size Wb W
  nd : W.heap[nb]? = some (.cells nc 62 (0, 0))
  lf : W.heap[g6]? = some (.cells #[v20, v27, .int .i64 r, .int .i64 d, .int .i64 k, .int .i64 s] 52 (0, 0))
  o20 : W.ownsRow Wb.heap.size 9 1 v20 n20 xs
  o27 : W.ownsRow Wb.heap.size 40 1 v27 n27 ys
  ge : Wb.heap.size ≤ g6
  lt : nb < Wb.heap.size
section
variable {Wb W W' : World} {nb g6 n20 n27 : Nat} {nc : Array Value} {xs ys : List Value} {v20 v27 : Value} {r d k s : Int}
theorem T4.set (h : T4 Wb nb nc g6 xs ys n20 n27 v20 v27 r d k s W) (j : Nat) (u : Value) : Below Wb.heap.size Wb (W.setCell ⟨g6, j, none⟩ u) ∧ (W.setCell ⟨g6, j, none⟩ u).heap[nb]? = some (.cells nc 62 (0, 0)) ∧ (W.setCell ⟨g6, j, none⟩ u).ownsRow Wb.heap.size 9 1 v20 n20 xs ∧ (W.setCell ⟨g6, j, none⟩ u).ownsRow Wb.heap.size 40 1 v27 n27 ys := by
  have hne : ∀ (T n base : Nat) (v : Value) (zs : List Value), W.ownsRow base T 1 v n zs → T ≠ 52 → (W.setCell ⟨g6, j, none⟩ u).ownsRow base T 1 v n zs := fun T n base v zs ho hT => own_move ho (fun q hq => Below.heap_setCell W ⟨g6, j, none⟩ u q (fun e => by
    obtain ⟨c, hc⟩ := own_typed ho q hq
    have hl := h.lf
    have e' : q = g6 := e
    subst e'
    rw [hc] at hl
    injection hl with hl
    injection hl with _ hl
    exact hT hl))
  exact ⟨h.below.setCell (p := ⟨g6, j, none⟩) h.ge u, (Below.heap_setCell W ⟨g6, j, none⟩ u nb (by have := h.ge; have := h.lt; show nb ≠ g6; omega)).trans h.nd, hne _ _ _ _ _ h.o20 (by decide), hne _ _ _ _ _ h.o27 (by decide)⟩
theorem T4.cells (h : T4 Wb nb nc g6 xs ys n20 n27 v20 v27 r d k s W) : W.cell? ⟨g6, 0, none⟩ = some v20 ∧ W.cell? ⟨g6, 1, none⟩ = some v27 ∧ W.cell? ⟨g6, 2, none⟩ = some (.int .i64 r) ∧ W.cell? ⟨g6, 3, none⟩ = some (.int .i64 d) ∧ W.cell? ⟨g6, 4, none⟩ = some (.int .i64 k) ∧ W.cell? ⟨g6, 5, none⟩ = some (.int .i64 s) :=
  ⟨blk_cell h.lf 0, blk_cell h.lf 1, blk_cell h.lf 2, blk_cell h.lf 3, blk_cell h.lf 4, blk_cell h.lf 5⟩
theorem R4.t4 {path : List ByteArray} {nm : ByteArray} {steps : List Int} {rp r d : Int} {v16 v19 v20 v23 v26 v27 v32 v6 : Value} (h : R4 Wb path nm steps rp (.int .i64 r) (.int .i64 d) 6 true true true v16 v19 v20 v23 v26 v27 v32 v6 W) (hn : Wb.heap[nb]? = some (.cells nc 62 (0, 0))) :
    ∃ g6, v6 = .pointer (some ⟨g6, 0, none⟩) ∧ T4 Wb nb nc g6 (encs Value.string path ++ [.string nm]) (encs (Value.int .i64) steps ++ [.int .i64 rp]) (path.length + 1) (steps.length + 1) v20 v27 r d 0 0 W := by
  obtain ⟨g, h1, h2, h3⟩ := h.q6 rfl
  rw [if_pos rfl] at h3
  exact ⟨g, h1, h.below, blk_below hn h.below, h3, h.q20 (by omega), h.q27 (by omega), h2, blk_lt hn⟩
end
/-- How the walk stands ahead of a round, or behind the last. -/
structure LvI (l : Nat) (l0 : List S62) (path : List ByteArray) (steps : List Int) (r d : Int) (n₀ NB : Nat) (J : List LV → World → Prop) (W0 W1 : World) (i : Nat) (ys : List LV) (Ds : List Nat) (W : World) : Prop where
  hi : i ≤ l0.length
  len : ys.length = (leavesL (l0.take i) path steps r d).length
  j : J ys W
  kc : KeepC n₀ NB W1 W
  lt : AllLt ys W.heap.size
  nd : Ds.Nodup
  mks : ∀ D ∈ Ds, W0.heap.size ≤ D ∧ W.heap[D]? = some (.deferred (some []))
section
variable {l : Nat} {l0 : List S62} {path : List ByteArray} {steps : List Int} {r d : Int} {n₀ NB : Nat} {J : List LV → World → Prop} {W0 W1 : World} {i : Nat} {ys : List LV} {Ds : List Nat} {wr wf W5 : World}
theorem LvI.next (h : LvI l l0 path steps r d n₀ NB J W0 W1 i ys Ds wr) (hlt : i < l0.length) {M : List S52} (hnx : leavesL (l0.take (i + 1)) path steps r d = leavesL (l0.take i) path steps r d ++ M) (hn : n₀ ≤ wr.heap.size) (hB : Below wr.heap.size wr wf) (xs : List LV) (hxs : xs.length = M.length)
    (hj : J (ys ++ xs) W5) (hk : KeepC n₀ NB wf W5) (hAll : AllLt (ys ++ xs) W5.heap.size) (Es : List Nat) (hnd : Es.Nodup) (hm : ∀ D ∈ Es, W0.heap.size ≤ D ∧ W5.heap[D]? = some (.deferred (some []))) : LvI l l0 path steps r d n₀ NB J W0 W1 (i + 1) (ys ++ xs) Es W5 :=
  ⟨hlt, by rw [hnx, List.length_append, List.length_append, h.len, hxs], hj, h.kc.trans ((KeepC.of_below hn hB).trans hk), hAll, hnd, hm⟩
end
end Go.Proofs.YtjdjlccdidfgoaaDoor.H
end
