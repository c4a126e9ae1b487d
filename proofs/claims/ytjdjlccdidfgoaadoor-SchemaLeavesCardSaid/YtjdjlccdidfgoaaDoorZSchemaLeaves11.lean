/- Texts of the claim, packed: H28, H29, H30. -/
import Derived.Laws.EntriesVeiled
import Derived.Laws.NewBlocks
import Derived.Lib.Hide
import Derived.LoopIn
import Derived.LoopNIn
import Derived.OwnWalkIn
import Derived.RangeFuncBound
import Derived.RangeFuncBox
import Derived.RangeFuncCalls
import Derived.RangeFuncFrom
import Derived.RangeFuncLeaves
import Derived.RangeFuncNested
import Derived.RangeFuncWrites
import Derived.Shelf.Abstract
import Derived.Shelf.RegionOpen
import Derived.TacticsInMore
import Derived.Test.YtjdjlccdidfgoaaDoorZSchemaLeaves7
section
-- Laid by this session's hprint.py, out of the kit's print.py and texts of the session. Not trusted: Lean checks it.
namespace Go.Proofs.YtjdjlccdidfgoaaDoor.H
open Go.RowKit Go.Proofs.YtjdjlccdidfgoaaDoorW.PrintWords Go.Proofs.YtjdjlccdidfgoaaDoorW.PrintLast Go.Proofs.YtjdjlccdidfgoaaDoorW.PrintMore
attribute [local go_sem] max2_int min2_int max_two min_two max_three min_three max_four min_four   -- for this text's walks alone
set_option linter.unusedVariables false
set_option linter.unusedSimpArgs false

-- OVPART Derived.RangeFuncNested Derived.RangeFuncBound Derived.RangeFuncCalls Derived.RangeFuncLeaves Derived.RangeFuncFrom Derived.RangeFuncWrites Derived.Shelf.Abstract Derived.Shelf.RegionOpen Derived.OwnWalkIn Derived.TacticsInMore Derived.LoopNIn Derived.LoopIn Derived.Lib.Hide Derived.Laws.NewBlocks Derived.Laws.EntriesVeiled Derived.RangeFuncBox
/-! ### schema_leaves: function 42 -/
open Go.Shelf
attribute [local go_sem] Oper.semAt_some
/-- The leaves of nodes, behind others. -/
def leavesL : List S62 → List ByteArray → List Int → Int → Int → List S52
  | [], _, _, _, _ => []
  | ⟨a, b, c, d, e, k⟩ :: xs, path, steps, rep, dfn =>
    (if c = true then leavesL k (path ++ [a]) (steps ++ [b]) (if b = 2 then rep + 1 else rep) (if b = 0 then dfn else dfn + 1)
     else [⟨path ++ [a], steps ++ [b], (if b = 2 then rep + 1 else rep), (if b = 0 then dfn else dfn + 1), ⟨d, e⟩⟩]) ++ leavesL xs path steps rep dfn
/-- The leaves of one node. -/
def leavesN (x : S62) (path : List ByteArray) (steps : List Int) (rep dfn : Int) : List S52 :=
  if x.f2 = true then leavesL x.f5 (path ++ [x.f0]) (steps ++ [x.f1]) (if x.f1 = 2 then rep + 1 else rep) (if x.f1 = 0 then dfn else dfn + 1)
  else [⟨path ++ [x.f0], steps ++ [x.f1], (if x.f1 = 2 then rep + 1 else rep), (if x.f1 = 0 then dfn else dfn + 1), ⟨x.f3, x.f4⟩⟩]
theorem leavesL_nil (path : List ByteArray) (steps : List Int) (rep dfn : Int) : leavesL [] path steps rep dfn = [] := by rw [leavesL]
theorem leavesL_cons (x : S62) (xs : List S62) (path : List ByteArray) (steps : List Int) (rep dfn : Int) : leavesL (x :: xs) path steps rep dfn = leavesN x path steps rep dfn ++ leavesL xs path steps rep dfn := by
  cases x
  rw [leavesL]
  rfl
theorem keepsFrom_put {B l : Nat} {W : World} (hl : l < B) (o : Obj) : KeepsFrom B W (W.putObj l o) := KeepsFrom.of_grownBy (grownBy_putObj' W l o) (fun j e => by cases e; exact hl)
theorem keepsFrom_lift {B B' : Nat} {W W' : World} (h : KeepsFrom B W W') (hB : B ≤ B') : KeepsFrom B' W W' := ⟨h.size, fun k o hk => h.same k o (Nat.le_trans hB hk)⟩
theorem keepsFrom_alloc (B : Nat) (W : World) (o : Obj) : KeepsFrom B W (W.alloc o) := KeepsFrom.of_grownBy (World.grownBy_alloc W o none) (fun j e => by cases e)
theorem far_keeps {A B : World} {row : Option Nat} {B0 k : Nat} {o : Obj} (hg : A.grownBy B row) (hr : ∀ r, row = some r → B0 ≤ r ∧ ∃ o : Obj, A.heap[r]? = some o ∧ o.isCells = false) (hk : k < B0) (h : A.heap[k]? = some o) : B.heap[k]? = some o :=
  (hg.block k (Array.getElem?_eq_some_iff.1 h).1 (fun e => by have := (hr k e.symm).1; omega)).trans h
/-- A loop's iterator that says of each value what it reads as when it is yielded. -/
def SeqR {α : Type} (F : Fence) (n : Nat) (P : Program) (g : Nat) (lb : Array Value) (encs : α → Array Value) (Kp : World → World → Prop) (Rd : List α → α → World → Prop) (S Sp : List α → Prop) (N : Nat) (w : World) : Prop :=
  ∀ (l : Nat) (J Jx : List α → World → Prop) (W : World), Below w.heap.size w W → OwnFrom W.heap.size J → OwnFrom W.heap.size Jx →
    (∀ pre x W1, J pre W1 → pre.length < N → Rd pre x W1 → YieldAt F (n - 1) P l (encs x) W1 fun e W' =>
      (e = .returned (.bool true) ∧ J (pre ++ [x]) W' ∧ Kp W1 W' ∧ KeepsFrom W.heap.size W1 W') ∨ (e = .returned (.bool false) ∧ Jx (pre ++ [x]) W' ∧ KeepsFrom W.heap.size W1 W')) →
    J [] W →
    CallsIn F n P g (#[.func (.yield l) #[] #[]] ++ lb) W fun e W' => (∃ v, e = .returned v) ∧ ((∃ xs, S xs ∧ J xs W') ∨ (∃ pre, Sp pre ∧ Jx pre W'))
theorem wpIn_range_ownRA {F : Fence} {n : Nat} {P : Program} {α : Type} {g : Operand} {ps : Array Tmp} {assign body : Code} {Q : Exit → Act → World → Prop} {a : Act} {w : World}
    (hro : F.round = none) (h1 : 1 ≤ n) {gf : Nat} {lb : Array Value} (hg : a.eval g = .func (.func gf) #[] lb) (hFg : F.fn gf) (eg : ∀ args w, (callFunc gf args).run P w = .ok (.enter gf args) w)
    {encs : α → Array Value} {Kp : World → World → Prop} {S Sp : List α → Prop} {N : Nat} {w0 : World} {Rd : List α → α → World → Prop} (hseq : SeqR F (n - 1) P gf lb encs Kp Rd S Sp N w0) (hRd : ∀ (i : List α) (x : α) (W : World) (l : Nat) (o o' : Obj), w.heap.size ≤ l → Rd i x W → W.heap[l]? = some o → o.isCells = false → Rd i x (W.putObj l o')) (hRda : ∀ (i : List α) (x : α) (W : World) (o : Obj), Rd i x W → Rd i x (W.alloc o)) (hKa : ∀ (W : World) (o : Obj), w.heap.size ≤ W.heap.size → Kp W (W.alloc o)) (ob : α → Obj)
    (hKt : ∀ {A B C : World}, Kp A B → Kp B C → Kp A C) (hKb : ∀ (W : World) (l : Nat) (o o' : Obj), w.heap.size ≤ l → W.heap[l]? = some o → o.isCells = false → o.isWalk = false → Kp W (W.putObj l o')) (hb0 : Below w0.heap.size w0 w) (hps : ∀ x, (encs x).size = ps.size)
    (I : List α → World → Prop) (Ix : Code → List α → World → Prop) (hI : OwnFrom w.heap.size I) (hIx : ∀ c, OwnFrom w.heap.size (Ix c)) (h0 : I [] w) (a₁ : α → Nat → Act)
    (hassign : ∀ (l : Nat) (x : α) (W : World) (K : Act → World → Prop), K (a₁ x W.heap.size) (W.alloc (ob x)) →
      assign.wpIn (F.inRound l) (n - 1 - 1) P (Exit.then K (fun _ _ _ => False)) { tmps := (ps.zip (encs x)).foldl (fun t (p, v) => t.setIfInBounds p v) a.tmps, defers := [] } W)
    (hbody : ∀ (l : Nat) (pre : List α) (x : α) (b : Nat) (W : World), W.heap[b]? = some (ob x) → I pre W → pre.length < N → Rd pre x W → body.wpIn (F.inRound l) (n - 1 - 1) P (ownPostG w.heap.size Kp I Ix (pre ++ [x]) W) (a₁ x b) W)
    (hdone : ∀ (D : Nat) (xs : List α) (W : World), w.heap.size ≤ D → S xs → I xs W → W.heap[D]? = some (.deferred (some [])) → Q .normal { a with defers := { target := .collected D, args := #[] } :: a.defers } W)
    (hstop : ∀ (D : Nat) (c : Code) (pre : List α) (W : World), w.heap.size ≤ D → Sp pre → Ix c pre W → W.heap[D]? = some (.deferred (some [])) → c.wpIn F n P Q { a with defers := { target := .collected D, args := #[] } :: a.defers } W) :
    (Code.rangeFunc g ps assign body).wpIn F n P Q a w := by
  refine wpIn_rangeFunc ?_
  intro fn hfn
  rw [hro]
  obtain ⟨rec, hrec⟩ : ∃ rec : LoopState → Option Code → Loop, rec = fun st pe => { state := st, pending := pe, fn, tmps := a.tmps, params := ps, assign, body, defers := w.heap.size } := ⟨_, rfl⟩
  obtain ⟨W1, hW1⟩ : ∃ W1, (w.alloc (.deferred (some []))).alloc (.loop (rec .ready none)) = W1 := ⟨_, rfl⟩
  have hL1 : W1.heap[w.heap.size + 1]? = some (.loop (rec .ready none)) := by
    rw [← hW1]; have := World.alloc_heap_new (w.alloc (.deferred (some []))) (.loop (rec .ready none)); rwa [World.size_alloc] at this
  have hK1 : W1.heap[w.heap.size]? = some (.deferred (some [])) := by
    rw [← hW1]; exact (Below.heap_alloc _ _ _ (by simp)).trans (World.alloc_heap_new w _)
  have hI1 : I [] W1 := by rw [← hW1]; exact hI.alloc _ (hI.alloc _ h0)
  have hsz1 : W1.heap.size = w.heap.size + 2 := by rw [← hW1, World.size_alloc, World.size_alloc]
  have hb1 : Below w0.heap.size w0 W1 := by
    rw [← hW1]; exact hb0.trans ((((Below.refl _ w).alloc (Nat.le_refl _) _).alloc (by simp) _).mono hb0.size)
  refine ⟨w.heap.size + 1, [{ target := .collected w.heap.size, args := #[] }], W1, { target := .fn (.func gf) lb, args := #[.func (.yield (w.heap.size + 1)) #[] #[]] }, W1, gf,
    #[.func (.yield (w.heap.size + 1)) #[] #[]] ++ lb, W1, ?_, ?_, ?_, ?_, fun _ => h1, ?_⟩
  · rw [← hW1, hrec]; exact run_enterLoop_outer _ _ _ _ _
  · simp only [resolve, hg]
    simp [go_sem]
  · intro f' hf'; simp [Target.leads] at hf'; subst hf'; exact hFg
  · simp [invoke, go_sem, eg]
  · -- THE ITERATOR's CONTRACT, AT THE CALLER's INVARIANT WITH THE TWO FACTS OF BOOK-KEEPING BESIDE IT
    have hnw : ∀ {A B : World} {row : Option Nat}, (∀ r, row = some r → W1.heap.size ≤ r ∧ ∃ o : Obj, A.heap[r]? = some o ∧ o.isCells = false) → (∀ r, row = some r → w.heap.size ≤ r ∧ ∃ o : Obj, A.heap[r]? = some o ∧ o.isCells = false) :=
      fun hr r e => by obtain ⟨hB, o, ho, hw⟩ := hr r e; exact ⟨by rw [← hW1] at hB; simp at hB; omega, o, ho, hw⟩
    refine (hseq (w.heap.size + 1)
      (fun pre W => I pre W ∧ W.heap[w.heap.size + 1]? = some (.loop (rec .ready none)) ∧ W.heap[w.heap.size]? = some (.deferred (some [])))
      (fun pre W => ∃ c, Ix c pre W ∧ W.heap[w.heap.size + 1]? = some (.loop (rec .done (some c))) ∧ W.heap[w.heap.size]? = some (.deferred (some [])))
      W1 hb1
      (fun s A B row hs hg' hr => ⟨hI s A B row hs.1 hg' (hnw (B := B) hr), far_keeps hg' hr (Array.getElem?_eq_some_iff.1 hL1).1 hs.2.1, far_keeps hg' hr (Array.getElem?_eq_some_iff.1 hK1).1 hs.2.2⟩)
      (fun s A B row hs hg' hr => by
        obtain ⟨c, hc, hl, hk⟩ := hs
        exact ⟨c, hIx c s A B row hc hg' (hnw (B := B) hr), far_keeps hg' hr (Array.getElem?_eq_some_iff.1 hL1).1 hl, far_keeps hg' hr (Array.getElem?_eq_some_iff.1 hK1).1 hk⟩)
      ?_ ⟨hI1, hL1, hK1⟩).mono ?_
    · -- ONE ROUND
      rintro pre x W0 ⟨hi0, hl0, hk0⟩ hlen hrd0
      have hlt0 : w.heap.size + 1 < W0.heap.size := (Array.getElem?_eq_some_iff.1 hl0).1
      have hy := run_yield (P := P) (args := encs x) hl0 (by rw [hrec]; exact hps x)
      rw [hrec] at hy
      obtain ⟨W, hWd⟩ : ∃ W, W = W0.alloc (ob x) := ⟨_, rfl⟩
      have hl : W.heap[w.heap.size + 1]? = some (.loop (rec .ready none)) := by rw [hWd]; exact (Below.heap_alloc _ _ _ hlt0).trans hl0
      have hk : W.heap[w.heap.size]? = some (.deferred (some [])) := by rw [hWd]; exact (Below.heap_alloc _ _ _ (by omega)).trans hk0
      have hi : I pre W := by rw [hWd]; exact hI.alloc _ hi0
      have hrd : Rd pre x W := by rw [hWd]; exact hRda _ _ _ _ hrd0
      have hKW : Kp W0 W := by rw [hWd]; exact hKa _ _ (by omega)
      have hob : W.heap[W0.heap.size]? = some (ob x) := by rw [hWd]; exact World.alloc_heap_new W0 _
      have hKF : KeepsFrom W1.heap.size W0 W := by rw [hWd]; exact keepsFrom_alloc _ _ _
      have hlt : w.heap.size + 1 < W.heap.size := (Array.getElem?_eq_some_iff.1 hl).1
      refine ⟨fn, _, assign, body, hy, roundIn_of_wpIn hfn (hassign _ x W0 _ ?_)⟩
      rw [← hWd]
      refine ⟨_, run_beginRound hl (by rw [hrec]), ?_⟩
      have hl2 : (W.putObj (w.heap.size + 1) (.loop { rec .ready none with state := .busy })).heap[w.heap.size + 1]? = some (.loop { rec .ready none with state := .busy }) := World.putObj_heap_same hlt
      have hk2 : (W.putObj (w.heap.size + 1) (.loop { rec .ready none with state := .busy })).heap[w.heap.size]? = some (.deferred (some [])) := (World.putObj_heap_other (by omega)).trans hk
      have hw2 : Kp W (W.putObj (w.heap.size + 1) (.loop { rec .ready none with state := .busy })) := hKb _ _ _ _ (by omega) hl rfl rfl
      refine wpIn_mono (hbody _ pre x W0.heap.size _ ((World.putObj_heap_other (by omega)).trans hob) (hI.putObj _ hi (by omega) hl rfl) hlen (hRd _ _ _ _ _ _ (by omega) hrd hl rfl)) ?_
      have fin : ∀ (jump : Option Code) (W3 : World), KeepsFrom w.heap.size (W.putObj (w.heap.size + 1) (.loop { rec .ready none with state := .busy })) W3 →
          (Instr.endRound (w.heap.size + 1) jump).run P W3 = .ok (.bool jump.isNone) (W3.putObj (w.heap.size + 1) (.loop (rec (if jump.isNone then .ready else .done) jump))) ∧
          W3.heap[w.heap.size + 1]? = some (.loop { rec .ready none with state := .busy }) ∧
          (W3.putObj (w.heap.size + 1) (.loop (rec (if jump.isNone then .ready else .done) jump))).heap[w.heap.size + 1]? = some (.loop (rec (if jump.isNone then .ready else .done) jump)) ∧
          (W3.putObj (w.heap.size + 1) (.loop (rec (if jump.isNone then .ready else .done) jump))).heap[w.heap.size]? = some (.deferred (some [])) := fun jump W3 hk3 => by
        have hl3 := hk3.same _ _ (by omega) hl2 rfl
        have := run_endRound (P := P) jump hl3
        rw [hrec] at this ⊢
        exact ⟨this, by rw [hrec] at hl3; exact hl3, World.putObj_heap_same (Array.getElem?_eq_some_iff.1 hl3).1, (World.putObj_heap_other (by omega)).trans (hk3.same _ _ (Nat.le_refl _) hk2 rfl)⟩
      rintro e a3 W3 hp
      cases e with
      | normal =>
        obtain ⟨hk3, hkp3, hi3⟩ := hp
        obtain ⟨hr, hl3, hl4, hk4⟩ := fin none W3 hk3
        exact ⟨_, _, hr, .inl ⟨rfl, ⟨hI.putObj _ hi3 (by omega) hl3 rfl, hl4, hk4⟩, hKt hKW (hKt (hKt hw2 hkp3) (hKb _ _ _ _ (by omega) hl3 rfl rfl)), (hKF.trans (((keepsFrom_put (B := W1.heap.size) (by omega) _).trans (keepsFrom_lift hk3 (by omega))).trans (keepsFrom_put (by omega) _)))⟩⟩
      | ret =>
        obtain ⟨hk3, hi3⟩ := hp
        obtain ⟨hr, hl3, hl4, hk4⟩ := fin (some .ret) W3 hk3
        exact ⟨_, _, hr, .inr ⟨rfl, ⟨.ret, (hIx _).putObj _ hi3 (by omega) hl3 rfl, hl4, hk4⟩, (hKF.trans (((keepsFrom_put (B := W1.heap.size) (by omega) _).trans (keepsFrom_lift hk3 (by omega))).trans (keepsFrom_put (by omega) _)))⟩⟩
      | exit id =>
        obtain ⟨hk3, hi3⟩ := hp
        obtain ⟨hr, hl3, hl4, hk4⟩ := fin (some (.exit id)) W3 hk3
        exact ⟨_, _, hr, .inr ⟨rfl, ⟨.exit id, (hIx _).putObj _ hi3 (by omega) hl3 rfl, hl4, hk4⟩, (hKF.trans (((keepsFrom_put (B := W1.heap.size) (by omega) _).trans (keepsFrom_lift hk3 (by omega))).trans (keepsFrom_put (by omega) _)))⟩⟩
      | goto t =>
        obtain ⟨hk3, hi3⟩ := hp
        obtain ⟨hr, hl3, hl4, hk4⟩ := fin (some (.goto t)) W3 hk3
        exact ⟨_, _, hr, .inr ⟨rfl, ⟨.goto t, (hIx _).putObj _ hi3 (by omega) hl3 rfl, hl4, hk4⟩, (hKF.trans (((keepsFrom_put (B := W1.heap.size) (by omega) _).trans (keepsFrom_lift hk3 (by omega))).trans (keepsFrom_put (by omega) _)))⟩⟩
      | panic ch => exact hp.elim
      | outgrown => exact hp.elim
    · -- BEHIND THE ITERATOR
      rintro e W2 ⟨⟨v, rfl⟩, (⟨xs, hS, hi, hl, hk⟩ | ⟨pre, hSp, c, hi, hl, hk⟩)⟩
      · exact ⟨none, _, by have := run_endLoop (P := P) hl (by rw [hrec]; simp); rw [hrec] at this; exact this, hdone _ xs _ (Nat.le_refl _) hS (hI.putObj _ hi (by omega) hl rfl) ((World.putObj_heap_other (by omega)).trans hk)⟩
      · exact ⟨some c, _, by have := run_endLoop (P := P) hl (by rw [hrec]; simp); rw [hrec] at this; exact this, hstop _ c pre _ (Nat.le_refl _) hSp ((hIx c).putObj _ hi (by omega) hl rfl) ((World.putObj_heap_other (by omega)).trans hk)⟩
/-- A leaf's value: its two slices and its numbers. -/
structure LV where
  b0 : Nat
  n0 : Nat
  c0 : Nat
  b1 : Nat
  n1 : Nat
  c1 : Nat
  r : Int
  d : Int
  k : Int
  s : Int
abbrev LV.arr (x : LV) : Array Value := #[.slice (some ⟨x.b0, 0, none⟩) x.n0 x.c0, .slice (some ⟨x.b1, 0, none⟩) x.n1 x.c1, .int .i64 x.r, .int .i64 x.d, .int .i64 x.k, .int .i64 x.s]
def LV.cells (x : LV) : List Value := [.slice (some ⟨x.b0, 0, none⟩) x.n0 x.c0, .slice (some ⟨x.b1, 0, none⟩) x.n1 x.c1, .int .i64 x.r, .int .i64 x.d, .int .i64 x.k, .int .i64 x.s]
/-- What a leaf's value reads as. -/
structure LvAt (base : Nat) (f : S52) (x : LV) (W : World) : Prop where
  r : x.r = f.f2
  d : x.d = f.f3
  k : x.k = f.f4.f0
  s : x.s = f.f4.f1
  n0 : x.n0 = f.f0.length
  n1 : x.n1 = f.f1.length
  c0 : x.n0 ≤ x.c0
  c1 : x.n1 ≤ x.c1
  m0 : x.c0 ≤ maxLen
  m1 : x.c1 ≤ maxLen
  g0 : base ≤ x.b0
  g1 : base ≤ x.b1
  h0 : ∃ cur : Array Value, W.heap[x.b0]? = some (.cells cur 9 (0, 0)) ∧ cur.toList.take x.n0 = f.f0.map Value.string ∧ cur.size = x.c0
  h1 : ∃ cur : Array Value, W.heap[x.b1]? = some (.cells cur 40 (0, 0)) ∧ cur.toList.take x.n1 = f.f1.map (Value.int .i64) ∧ cur.size = x.c1
theorem LvAt.kept {base : Nat} {f : S52} {x : LV} {W W' : World} {row : Option Nat} (h : LvAt base f x W) (hg : W.grownBy W' row) (hr : ∀ g, row = some g → ∃ o, W.heap[g]? = some o ∧ ∀ cs fr, o ≠ .cells cs 9 fr ∧ o ≠ .cells cs 40 fr) : LvAt base f x W' := by
  obtain ⟨cur0, e0, p0, q0⟩ := h.h0
  obtain ⟨cur1, e1, p1, q1⟩ := h.h1
  have k0 : some x.b0 ≠ row := fun e => by
    obtain ⟨o, ho, hn⟩ := hr _ e.symm
    rw [e0] at ho
    exact (hn _ _).1 (Option.some.inj ho).symm
  have k1 : some x.b1 ≠ row := fun e => by
    obtain ⟨o, ho, hn⟩ := hr _ e.symm
    rw [e1] at ho
    exact (hn _ _).2 (Option.some.inj ho).symm
  exact { h with
    h0 := ⟨cur0, (hg.block _ (Array.getElem?_eq_some_iff.1 e0).1 k0).trans e0, p0, q0⟩
    h1 := ⟨cur1, (hg.block _ (Array.getElem?_eq_some_iff.1 e1).1 k1).trans e1, p1, q1⟩ }
/-- x's blocks lie behind y's. -/
structure LvFar (y x : LV) : Prop where
  a : y.b0 < x.b0
  b : y.b0 < x.b1
  c : y.b1 < x.b0
  d : y.b1 < x.b1
/-- What value comes next, and what it reads as. -/
def RdL (base : Nat) (L : List S52) (pre : List LV) (x : LV) (W : World) : Prop := (∃ h : pre.length < L.length, LvAt base L[pre.length] x W) ∧ ∀ y ∈ pre, LvFar y x
theorem RdL.kept {base : Nat} {L : List S52} {pre : List LV} {x : LV} {W W' : World} {row : Option Nat} (h : RdL base L pre x W) (hg : W.grownBy W' row) (hr : ∀ g, row = some g → ∃ o, W.heap[g]? = some o ∧ ∀ cs fr, o ≠ .cells cs 9 fr ∧ o ≠ .cells cs 40 fr) : RdL base L pre x W' := by
  obtain ⟨⟨h1, h2⟩, h3⟩ := h
  exact ⟨⟨h1, h2.kept hg hr⟩, h3⟩
/-- The values so far: what each reads as; no two lead to one block. -/
structure lvAll (base : Nat) (L : List S52) (pre : List LV) (W : World) : Prop where
  at_ : ∀ (i : Nat) (hi : i < pre.length) (hl : i < L.length), LvAt base L[i] pre[i] W
  far : ∀ (i j : Nat) (hi : i < j) (hj : j < pre.length), LvFar (pre[i]'(Nat.lt_trans hi hj)) pre[j]
theorem lvAll.nil (base : Nat) (L : List S52) (W : World) : lvAll base L [] W := ⟨fun i hi => by simp at hi, fun i j hi hj => by simp at hj⟩
theorem lvAll_snoc {base : Nat} {L : List S52} {pre : List LV} {x : LV} {W W' : World} (h : lvAll base L pre W) (hx : RdL base L pre x W) (hk : ∀ {f : S52} {y : LV}, LvAt base f y W → LvAt base f y W') : lvAll base L (pre ++ [x]) W' := by
  obtain ⟨⟨hlt, hx⟩, hfar⟩ := hx
  refine ⟨fun i hi hl => ?_, fun i j hi hj => ?_⟩
  · by_cases e : i < pre.length
    · rw [List.getElem_append_left e]
      exact hk (h.at_ i e hl)
    · obtain rfl : i = pre.length := by simp at hi; omega
      rw [List.getElem_append_right (Nat.le_refl _)]
      simpa using hk hx
  · by_cases e : j < pre.length
    · rw [List.getElem_append_left e, List.getElem_append_left (Nat.lt_trans hi e)]
      exact h.far i j hi e
    · obtain rfl : j = pre.length := by simp at hj; omega
      rw [List.getElem_append_right (Nat.le_refl _), List.getElem_append_left hi]
      simpa using hfar _ (List.getElem_mem hi)
theorem lvAll.kept {base : Nat} {L : List S52} {pre : List LV} {W W' : World} (h : lvAll base L pre W) (hk : ∀ {f : S52} {y : LV}, LvAt base f y W → LvAt base f y W') : lvAll base L pre W' := ⟨fun i hi hl => hk (h.at_ i hi hl), h.far⟩
theorem ob_some {v : Value} {k : Nat} (h : v.ownBlock = some k) : ∃ A n c, v = .slice (some A) n c ∧ A.block = k := by
  unfold Value.ownBlock at h
  split at h
  · exact ⟨_, _, _, rfl, Option.some.inj h⟩
  · cases h
theorem info_leaf_ : (Tryd.prog.info? 52).map (fun i => (i.zero, i.size, i.bytes)) = some (some (.agg #[.slice none 0 0, .slice none 0 0, .int .i64 0, .int .i64 0, .int .i64 0, .int .i64 0]), 6, 80) := by kernel_rfl
/-- Block k is neither the collector's box nor the row that its slice lies in. -/
structure Free_ (NB : Nat) (W : World) (k : Nat) : Prop where
  ne : k ≠ NB
  box : ∃ o, W.heap[NB]? = some o ∧ o.isCells = true
  row : ∀ A n c, W.cell? ⟨NB, 0, none⟩ = some (.slice (some A) n c) → A.block ≠ k
/-- What a collector keeps: all cells but its box and its row; its row stays its row or is a new one. -/
structure KeepC (n₀ NB : Nat) (W W' : World) : Prop where
  below : Below n₀ W W'
  size : W.heap.size ≤ W'.heap.size
  cells : ∀ k o, W.heap[k]? = some o → o.isCells = true → Free_ NB W k → W'.heap[k]? = some o
  row : ∀ o, W.heap[NB]? = some o → o.isCells = true → (∃ o', W'.heap[NB]? = some o' ∧ o'.isCells = true) ∧ ∀ A n c, W'.cell? ⟨NB, 0, none⟩ = some (.slice (some A) n c) → (W.heap.size ≤ A.block ∧ A.block < W'.heap.size) ∨ ∃ A' n' c', W.cell? ⟨NB, 0, none⟩ = some (.slice (some A') n' c') ∧ A'.block = A.block
theorem Free_.next {n₀ NB : Nat} {W W' : World} {k : Nat} (h : Free_ NB W k) (hk : k < W.heap.size) (hc : KeepC n₀ NB W W') : Free_ NB W' k := by
  obtain ⟨o, ho, hoc⟩ := h.box
  obtain ⟨hb, hr⟩ := hc.row o ho hoc
  refine ⟨h.ne, hb, fun A n c hA => ?_⟩
  rcases hr A n c hA with hr | ⟨A', n', c', hr, e⟩
  · omega
  · rw [← e]
    exact h.row A' n' c' hr
theorem KeepC.refl (n₀ NB : Nat) (W : World) : KeepC n₀ NB W W := ⟨Below.refl _ _, Nat.le_refl _, fun _ _ h _ _ => h, fun o ho hc => ⟨⟨o, ho, hc⟩, fun A n c h => .inr ⟨A, n, c, h, rfl⟩⟩⟩
theorem KeepC.trans {n₀ NB : Nat} {A B C : World} (h : KeepC n₀ NB A B) (k : KeepC n₀ NB B C) : KeepC n₀ NB A C :=
  ⟨h.below.trans k.below, Nat.le_trans h.size k.size, fun j o hj hc hf => k.cells j o (h.cells j o hj hc hf) hc (hf.next (Array.getElem?_eq_some_iff.1 hj).1 h), fun o ho hoc => by
    obtain ⟨⟨o2, ho2, hoc2⟩, hr2⟩ := h.row o ho hoc
    obtain ⟨hb3, hr3⟩ := k.row o2 ho2 hoc2
    refine ⟨hb3, fun D n c hD => ?_⟩
    rcases hr3 D n c hD with hr | ⟨A', n', c', hr, e⟩
    · exact .inl ⟨Nat.le_trans h.size hr.1, hr.2⟩
    · rcases hr2 A' n' c' hr with hr2 | ⟨A2, n2, c2, hr2, e2⟩
      · exact .inl (by rw [← e]; exact ⟨hr2.1, Nat.lt_of_lt_of_le hr2.2 k.size⟩)
      · exact .inr ⟨A2, n2, c2, hr2, e2.trans e⟩⟩
theorem KeepC.putObj {n₀ NB : Nat} {A : World} {l : Nat} {o : Obj} (o' : Obj) (hn : n₀ ≤ l) (hl : A.heap[l]? = some o) (ho : o.isCells = false) : KeepC n₀ NB A (A.putObj l o') := by
  have hfar : ∀ (j : Nat) (x : Obj), A.heap[j]? = some x → x.isCells = true → (A.putObj l o').heap[j]? = some x := fun j x hj hc => (World.putObj_heap_other (fun e => by rw [e, hl] at hj; cases hj; rw [ho] at hc; cases hc)).trans hj
  refine ⟨(Below.refl n₀ A).grown (grownBy_putObj' A l o') (by have := (Array.getElem?_eq_some_iff.1 hl).1; omega) (fun k e => by cases e; exact hn), (grownBy_putObj' A l o').size, fun j x hj hc _ => hfar j x hj hc, fun x hx hc => ⟨⟨x, hfar NB x hx hc, hc⟩, fun D n c hD => .inr ⟨D, n, c, ?_, rfl⟩⟩⟩
  rw [← hD]
  exact (World.cell?_of_block (w := A) ((hfar NB x hx hc).trans hx.symm)).symm
theorem KeepC.alloc {n₀ NB : Nat} {A B : World} (h : KeepC n₀ NB A B) (hn : n₀ ≤ A.heap.size) (o : Obj) : KeepC n₀ NB A (B.alloc o) := by
  refine h.trans ⟨(Below.refl n₀ B).alloc (Nat.le_trans hn h.size) o, by rw [World.size_alloc]; omega, fun k x hk _ _ => blk_alloc hk o, fun x hx hc => ⟨⟨x, blk_alloc hx o, hc⟩, fun D n c hD => .inr ⟨D, n, c, ?_, rfl⟩⟩⟩
  rw [← hD]
  exact (World.cell?_of_block (w := B) ((blk_alloc hx o).trans hx.symm)).symm
/-- An append inside a fence: the row behind it is the row ahead of it, or a new one. -/
theorem apIn_ {F : Fence} {n : Nat} {P : Program} (w : World) {ops : Array Oper} {rest : List Oper} {o : Oper} {a : Act} {Q : Exit → Act → World → Prop}
    (hg : o.guard = none) (s x : Operand) (t : TypeId) (hop : o.op = Op.call { callee := Callee.builtin Builtin.append, args := #[s, x], argTypes := #[t, t] })
    (base : Nat) (e : TypeId) (i : TypeInfo) (z : Value) (size bytes : Nat) (h1 : P.underlying t = some (.slice e)) (h2 : P.info? e = some i) (h3 : i.zero = some z) (h4 : i.size = size) (h5 : i.bytes = bytes) (h6 : z.cells.size = size) (h7 : 0 < size)
    (v : Value) (k : Nat) (xs : List Value) (hs : a.eval s = v) (hown : w.ownsRow base e size v k xs) (ad : Addr) (m c : Nat) (news : List Value) (hx : a.eval x = .slice (some ad) m c) (hn : news.length = m * size)
    (hc : ∀ j u, news[j]? = some u → w.cell? (ad.add j) = some u) (h1c : ∀ u ∈ news, u.oneCell' = true) (b1 : k + m ≤ maxLen) (b2 : (k + m) * bytes ≤ 140737488355328) (b3 : base ≤ w.heap.size)
    (hK : ∀ v' w', w'.ownsRow base e size v' (k + m) (xs ++ news) → w.grownBy w' v.ownBlock → (v'.ownBlock = v.ownBlock ∨ v'.ownBlock = some w.heap.size) → wpListIn F n P ops Q rest (a.put o.dst v') w') :
    wpListIn F n P ops Q (o :: rest) a w := by
  refine wpListIn_plain hg fun K hK' => ?_
  obtain ⟨v', w', hrun, r1, r2, _, r4⟩ := run_append_own_at (P := P) w base t o.type e i z size bytes h1 h2 h3 h4 h5 h6 h7 v k xs hown ad m c news hn hc h1c b1 b2 b3
  unfold Oper.wpIn
  refine ⟨?_, ?_⟩
  · simp [Oper.about, hop, resolve, Target.leads, Sem.run_pure]
  · rw [Oper.semAt_plain F _ _ (by rw [hop]; intro c hc'; cases hc')]
    simp [execOp, hop, resolve, invoke, builtin, hs, hx, hrun, Result.andThen]
    exact hK' _ _ (hK v' w' r1 r2 r4)
theorem lv_new (W : World) (x : LV) (T : TypeId) (j : Nat) (u : Value) (h : x.cells[j]? = some u) : (W.alloc (.cells x.arr T)).cell? ((⟨W.heap.size, 0, none⟩ : Addr).add j) = some u := by
  have hj : j < 6 := (List.getElem?_eq_some_iff.1 h).1
  have e : (⟨W.heap.size, 0, none⟩ : Addr).add j = ⟨W.heap.size, j, none⟩ := by unfold Addr.add; split <;> simp_all
  rw [e, blk_cell (blk_new W (.cells x.arr T)) j, ← h]
  match j, hj with
  | 0, _ => rfl
  | 1, _ => rfl
  | 2, _ => rfl
  | 3, _ => rfl
  | 4, _ => rfl
  | 5, _ => rfl
/-- The cells of leaves' values, one behind the other. -/
def lvCells (l : List LV) : List Value := l.flatMap LV.cells
theorem leaves_in (n : Nat) (A : Option Addr) (k c : Nat) (v0 v1 : Value) (a2 a3 a4 a5 : Value) (w : World) :
    CallsIn Fence.wide n Tryd.prog 42 #[.slice A k c, .agg #[v0, v1, a2, a3, a4, a5]] w fun e w' => e = .returned (.func (.func 59) #[] #[.pointer (some ⟨w.heap.size, 0, none⟩), .pointer (some ⟨w.heap.size + 1, 0, none⟩)]) ∧ w' = (w.alloc (.cells #[.slice A k c] 22)).alloc (.cells #[v0, v1, a2, a3, a4, a5] 52) := by
  refine callsIn_of_wp Tryd.func42 rfl trivial ?_ rfl
  simp only [Tryd.ntmps42, List.size_toArray, List.length_cons, List.length_nil, Nat.reduceAdd, Nat.reduceSub, Array.replicate_succ, Array.replicate_zero, List.push_toArray, List.append_toArray, List.nil_append, List.cons_append]
  gi_wp2
  go_ret
  exact ⟨rfl, rfl⟩


end Go.Proofs.YtjdjlccdidfgoaaDoor.H
end
section
-- Laid by this session's hprint.py, out of the kit's print.py and texts of the session. Not trusted: Lean checks it.
namespace Go.Proofs.YtjdjlccdidfgoaaDoor.H
open Go.RowKit Go.Proofs.YtjdjlccdidfgoaaDoorW.PrintWords Go.Proofs.YtjdjlccdidfgoaaDoorW.PrintLast Go.Proofs.YtjdjlccdidfgoaaDoorW.PrintMore
attribute [local go_sem] max2_int min2_int max_two min_two max_three min_three max_four min_four   -- for this text's walks alone
set_option linter.unusedVariables false
set_option linter.unusedSimpArgs false

-- OVPART Derived.RangeFuncFrom Derived.RangeFuncBox
/-! ### api_Leaf_58: function 58 -/
open Go.Shelf
attribute [local go_sem] Oper.semAt_some
set_option maxRecDepth 100000 in
set_option maxHeartbeats 4000000 in
theorem append_leaf (gf : Nat) (fn : Func) (lb : Array Value) (hfn : Tryd.prog.funcs[gf]? = some fn) (hnm : (fn.name == "runtime.NumGoroutine") = false) {bc : Code} (hbody : fn.body = some bc) (L : List S52) (hL : L.length ≤ 1000000) (w : World)
    (hseq : ∀ w1 : World, Below w.heap.size w w1 → w1.heap.size = w.heap.size + 1 → Boxed w1 w.heap.size 45 (.slice none 0 0) → SeqR Fence.wide 5 Tryd.prog gf lb (fun x : LV => #[.agg x.arr]) (KeepC w.heap.size w.heap.size) (RdL w.heap.size L) (fun ys => ys.length = L.length) (fun _ => True) L.length w1) :
    Calls Tryd.prog 58 #[.slice none 0 0, .func (.func gf) #[] lb] w fun e w' => ∃ v ys, e = .returned v ∧ ys.length = L.length ∧ w'.ownsRow w.heap.size 52 6 v ys.length (lvCells ys) ∧ lvAll w.heap.size L ys w' ∧ Below w.heap.size w w' := by
  obtain ⟨i0, hi, hz0, hz1, hz2⟩ := info_parts info_leaf_
  refine (callsIn_wide (n := 6)).1 ?_
  refine callsIn_of_wp_marks Tryd.func58 rfl trivial ?_ rfl
  simp only [Tryd.ntmps58, List.size_toArray, List.length_cons, List.length_nil, Nat.reduceAdd, Nat.reduceSub, Array.replicate_succ, Array.replicate_zero, List.push_toArray, List.append_toArray, List.nil_append, List.cons_append]
  gi_wp2
  have bO := Boxed.new w 45 (.slice none 0 0)
  have hB0 : Below w.heap.size w (w.alloc (.cells #[.slice none 0 0] 45)) := below_alloc (Below.refl _ _) _
  have hsz : (w.alloc (.cells #[.slice none 0 0] 45)).heap.size = w.heap.size + 1 := World.size_alloc _ _
  generalize (w.alloc (.cells #[.slice none 0 0] 45)) = w1 at *
  refine wpIn_range_ownRA rfl (by omega) (gf := gf) (lb := lb) rfl trivial (enters_of hfn hnm hbody)
    (hseq w1 hB0 hsz bO) ?rd ?rda (fun W o h => (KeepC.refl _ _ W).alloc (by omega) o) (fun x => .cells x.arr 52) (fun h k => KeepC.trans h k) (fun W l o o' hl ho hc _ => KeepC.putObj o' (by omega) ho hc) (Below.refl _ _) (fun _ => rfl)
    (fun pre W => (∃ v, Boxed W w.heap.size 45 v ∧ W.ownsRow w.heap.size 52 6 v pre.length (lvCells pre) ∧ (v = .slice none 0 0 ↔ pre = [])) ∧ Below w.heap.size w W ∧ lvAll w.heap.size L pre W)
    (fun _ _ _ => False) ?own (fun _ _ _ _ _ hs _ _ => hs) ?h0
    (fun (x : LV) b => { tmps := #[.slice none 0 0, .func (.func gf) #[] lb, .pointer (some ⟨w.heap.size, 0, none⟩), undef, .slice none 0 0, .pointer (some ⟨b, 0, none⟩), .func (.func gf) #[] lb, .agg x.arr, undef, undef, undef, undef, undef], defers := [] }) ?assign ?body ?done ?stop
  case rd =>
    intro i x W l o o' hl hx ho hc
    exact hx.kept (grownBy_putObj' W l o') (fun g e => by cases e; exact ⟨o, ho, fun cs fr => ⟨fun e => by rw [e] at hc; simp [Obj.isCells] at hc, fun e => by rw [e] at hc; simp [Obj.isCells] at hc⟩⟩)
  case rda =>
    intro i x W o hx
    exact hx.kept (World.grownBy_alloc W o none) (fun g e => by cases e)
  case own =>
    refine OwnFrom.and (Own.from (holdsRow_own w.heap.size w.heap.size 45 52 6 (fun pre => pre.length) (fun pre => lvCells pre) (fun pre v => v = .slice none 0 0 ↔ pre = [])) _) (OwnFrom.and (ownFrom_below (Nat.le_refl _) (by omega)) ?_)
    intro s A B row hs hg hr
    exact hs.kept fun hy => hy.kept hg (fun g e => by
      obtain ⟨_, o, ho, hc⟩ := hr g e
      exact ⟨o, ho, fun cs fr => ⟨fun e => by rw [e] at hc; simp [Obj.isCells] at hc, fun e => by rw [e] at hc; simp [Obj.isCells] at hc⟩⟩)
  case h0 => exact ⟨⟨_, bO, World.ownsRow_nil _ _ _ _, by simp⟩, hB0, lvAll.nil _ _ _⟩
  case assign =>
    intro l x W K hK
    gi_wp2
    first | exact hK | simpa using hK
  case body =>
    rintro l pre x b W hob ⟨⟨v, hv, hrow, hnil⟩, hBW, hall⟩ hl hx
    have hc := hv.cell
    have hc0 := blk_cell hob 0
    have hc1 := blk_cell hob 1
    have hc2 := blk_cell hob 2
    have hc3 := blk_cell hob 3
    have hc4 := blk_cell hob 4
    have hc5 := blk_cell hob 5
    have hmax : 1000001 ≤ maxLen := by decide
    clear hnil
    gi_wp2_with (gi_at_builtin; refine apIn_ _ rfl _ _ 45 rfl w.heap.size 52 i0 (.agg #[.slice none 0 0, .slice none 0 0, .int .i64 0, .int .i64 0, .int .i64 0, .int .i64 0]) 6 80 Tryd.underlying45 hi hz0 hz1 hz2 rfl (by decide) v pre.length (lvCells pre) rfl (hrow.alloc _) ⟨W.heap.size, 0, none⟩ 1 1 x.cells rfl rfl (lv_new W x _) (fun u hu => by simp [LV.cells] at hu; rcases hu with rfl | rfl | rfl | rfl | rfl | rfl <;> rfl) (by omega) (by omega) (by have := hBW.size; rw [World.size_alloc]; omega) ?_; intro v' w9 hown' hgrow hat; obtain ⟨g', cap', rfl⟩ := ownsRow_succ hown'; obtain ⟨hv1, hv2, hr2, hk2, hb2⟩ := hv.appended (by decide) hrow hBW.size (Nat.le_refl _) hown' hgrow; have hc9 := hv1.cell; have hf9 := hv1.frozen)
    have hce : lvCells (pre ++ [x]) = lvCells pre ++ x.cells := by simp [lvCells]
    refine ⟨hk2.from _, ⟨hb2, hk2.size, fun k o hk ho hf => ?_, fun o ho hoc => ⟨⟨_, hv2, rfl⟩, fun A n c hA => ?_⟩⟩, ⟨_, hv2, by rw [hce, List.length_append]; exact hr2, by simp⟩, hBW.trans hb2, ?_⟩
    · have hks : k < W.heap.size := (Array.getElem?_eq_some_iff.1 hk).1
      have hnb : some k ≠ v.ownBlock := fun e => by
        obtain ⟨A, n, c, rfl, e2⟩ := ob_some e.symm
        exact hf.row A n c hv.cell e2
      have e1 := (World.grownBy_alloc W (.cells x.arr 52) none).block k hks (by simp)
      have e2 := hgrow.block k (by rw [World.size_alloc]; omega) hnb
      have e3 := (grownBy_setCell' w9 w.heap.size (.slice (some ⟨g', 0, none⟩) (pre.length + 1) cap')).block k (by have := hgrow.size; rw [World.size_alloc] at this; omega) (fun e => hf.ne (Option.some.inj e))
      exact (e3.trans (e2.trans e1)).trans hk
    · rw [hv2.cell] at hA
      simp only [Option.some.injEq, Value.slice.injEq] at hA
      obtain ⟨rfl, rfl, rfl⟩ := hA
      rcases hat with hat | hat
      · right
        obtain ⟨A', n', c', rfl, e2⟩ := ob_some (hat.symm.trans (by rfl : _ = some g'))
        exact ⟨A', n', c', hv.cell, e2⟩
      · left
        simp only [Value.ownBlock, Option.map_some, Option.some.injEq, World.size_alloc] at hat
        exact ⟨by show W.heap.size ≤ g'; omega, own_lt hr2 g' rfl⟩
    · exact lvAll_snoc hall hx (fun hy => (hy.kept (World.grownBy_alloc W (.cells x.arr 52) none) (fun g e => by cases e)).kept hgrow (fun g e => by
        rcases (hrow.alloc (.cells x.arr 52)).2 with ⟨rfl, _⟩ | ⟨g2, cap2, cur2, rfl, _, hgb, _⟩
        · simp [Value.ownBlock] at e
        · obtain rfl : g2 = g := by simpa [Value.ownBlock] using e
          exact ⟨_, hgb, fun cs fr => ⟨fun e => (by cases e), fun e => (by cases e)⟩⟩) |>.kept (grownBy_setCell' w9 w.heap.size _) (fun g e => by
            cases e
            exact ⟨_, hv1, fun cs fr => ⟨fun e => (by cases e), fun e => (by cases e)⟩⟩))
  case done =>
    rintro D ys W hD hys ⟨⟨v, hv, hrow, hnil⟩, hBW, hall⟩ hK
    have hc := hv.cell
    gi_wp2
    refine ⟨by simp, .inl ⟨_, _, rfl, run_takeDeferred hK, ?_⟩⟩
    refine ⟨_, results_tmp rfl _ _ _, v, ys, rfl, hys, ownsRow_putObj hrow (.deferred none) hK rfl, hall.kept fun hy => hy.kept (grownBy_putObj' W D (.deferred none)) (fun g e => by cases e; exact ⟨_, hK, fun cs fr => ⟨(nomatch ·), (nomatch ·)⟩⟩), hBW.trans (belowK_b (w := w) (Nat.le_refl _) W D _ _ (by omega) hK rfl rfl)⟩
  case stop =>
    rintro D c pre W hD _ h _
    exact h.elim


end Go.Proofs.YtjdjlccdidfgoaaDoor.H
end
section
-- Laid by this session's hprint.py, out of the kit's print.py and texts of the session. Not trusted: Lean checks it.
namespace Go.Proofs.YtjdjlccdidfgoaaDoor.H
open Go.RowKit Go.Proofs.YtjdjlccdidfgoaaDoorW.PrintWords Go.Proofs.YtjdjlccdidfgoaaDoorW.PrintLast Go.Proofs.YtjdjlccdidfgoaaDoorW.PrintMore
attribute [local go_sem] max2_int min2_int max_two min_two max_three min_three max_four min_four   -- for this text's walks alone
set_option linter.unusedVariables false
set_option linter.unusedSimpArgs false

-- OVPART Derived.Lib.Hide
/-! ### api_Leaf_41: function 41 -/
theorem lv_at : ∀ (ys : List LV) (j : Nat) (h : j < ys.length), ((lvCells ys).drop (j * 6)).take 6 = ys[j].cells
  | y :: ys, 0, _ => rfl
  | y :: ys, j + 1, h => by
    have e : (lvCells (y :: ys)).drop ((j + 1) * 6) = (lvCells ys).drop (j * 6) := by
      rw [show lvCells (y :: ys) = y.cells ++ lvCells ys from rfl, show (j + 1) * 6 = y.cells.length + j * 6 by simp [LV.cells]; omega, List.drop_length_add_append]
    rw [e, lv_at ys j (by simpa using h)]
    rfl
theorem lv_S {w : World} {base : Nat} {v : Value} {ys : List LV} {L : List S52} (ho : w.ownsRow base 52 6 v ys.length (lvCells ys)) (hl : ys.length = L.length) (ha : lvAll base L ys w) : Kd.S k52 52 w base (fun _ => True) v L := by
  have huniq : ∀ (k j j' : Nat) (hj : j < ys.length) (hj' : j' < ys.length), (ys[j].b0 = k ∨ ys[j].b1 = k) → (ys[j'].b0 = k ∨ ys[j'].b1 = k) → j = j' := by
    intro k j j' hj hj' h h'
    rcases Nat.lt_trichotomy j j' with hlt | he | hlt
    · have hf := ha.far j j' hlt hj'
      have := hf.a
      have := hf.b
      have := hf.c
      have := hf.d
      omega
    · exact he
    · have hf := ha.far j' j hlt hj
      have := hf.a
      have := hf.b
      have := hf.c
      have := hf.d
      omega
  classical
  obtain ⟨f, hf⟩ : ∃ f : Nat → Nat, ∀ (k j : Nat) (hj : j < ys.length), (ys[j].b0 = k ∨ ys[j].b1 = k) → f k = j := by
    refine ⟨fun k => if h : ∃ j, ∃ hj : j < ys.length, (ys[j].b0 = k ∨ ys[j].b1 = k) then h.choose else 0, fun k j hj h => ?_⟩
    have he : ∃ j, ∃ hj : j < ys.length, (ys[j].b0 = k ∨ ys[j].b1 = k) := ⟨j, hj, h⟩
    show dite _ _ _ = j
    rw [dif_pos he]
    obtain ⟨hj2, h2⟩ := he.choose_spec
    exact huniq k _ j hj2 hj h2 h
  have hty := own_typed ho
  refine ⟨f, fun _ _ => trivial, lvCells ys, by rw [List.length_zipIdx, ← hl]; exact ho, by rw [List.length_zipIdx, ho.1, hl]; rfl, fun j p hj => ?_⟩
  obtain ⟨hjl, hjp⟩ := List.getElem?_eq_some_iff.1 hj
  rw [List.length_zipIdx] at hjl
  rw [List.getElem_zipIdx] at hjp
  subst hjp
  have hjy : j < ys.length := by omega
  have hat := ha.at_ j hjy hjl
  show (Kd.tag f _).M _ _ _ _ (((lvCells ys).drop (j * 6)).take 6)
  rw [lv_at ys j hjy]
  have hk0 : ys[j].b0 ≠ (v.ownBlock.getD 0) ∨ v.ownBlock = none := by
    cases hv : v.ownBlock with
    | none => exact .inr rfl
    | some g =>
      refine .inl fun e => ?_
      obtain ⟨c2, h2⟩ := hty g hv
      obtain ⟨cur, e0, _⟩ := hat.h0
      simp only [Option.getD_some] at e
      rw [e, h2] at e0
      cases e0
  have hk1 : ys[j].b1 ≠ (v.ownBlock.getD 0) ∨ v.ownBlock = none := by
    cases hv : v.ownBlock with
    | none => exact .inr rfl
    | some g =>
      refine .inl fun e => ?_
      obtain ⟨c2, h2⟩ := hty g hv
      obtain ⟨cur, e0, _⟩ := hat.h1
      simp only [Option.getD_some] at e
      rw [e, h2] at e0
      cases e0
  have hne : ∀ b : Nat, (b ≠ v.ownBlock.getD 0 ∨ v.ownBlock = none) → some b ≠ v.ownBlock := by
    rintro b h e
    rcases h with h | h
    · rw [← e] at h
      exact h rfl
    · rw [h] at e
      cases e
  obtain ⟨cur0, e0, p0, q0⟩ := hat.h0
  obtain ⟨cur1, e1, p1, q1⟩ := hat.h1
  have c0 := hat.c0
  have c1 := hat.c1
  rw [hat.n0] at p0 c0
  rw [hat.n1] at p1 c1
  have M := @k52_mkM w base (fun k => ((fun _ => True) k ∧ some k ≠ v.ownBlock) ∧ f k = j) L[j] (.slice (some ⟨ys[j].b0, 0, none⟩) L[j].f0.length ys[j].c0) (Kd.R_of_own ⟨by simp [encs], .inr ⟨_, _, _, rfl, hat.g0, e0, c0, hat.m0, by rw [q0, Nat.mul_one], by rw [Nat.mul_one]; exact p0⟩⟩ (fun k hk => by
      obtain rfl : ys[j].b0 = k := by simpa [Value.ownBlock] using hk
      exact ⟨⟨trivial, hne _ hk0⟩, hf _ j hjy (.inl rfl)⟩)) (.slice (some ⟨ys[j].b1, 0, none⟩) L[j].f1.length ys[j].c1) (Kd.R_of_own ⟨by simp [encs], .inr ⟨_, _, _, rfl, hat.g1, e1, c1, hat.m1, by rw [q1, Nat.mul_one], by rw [Nat.mul_one]; exact p1⟩⟩ (fun k hk => by
      obtain rfl : ys[j].b1 = k := by simpa [Value.ownBlock] using hk
      exact ⟨⟨trivial, hne _ hk1⟩, hf _ j hjy (.inr rfl)⟩))
  have ec : ys[j].cells = [.slice (some ⟨ys[j].b0, 0, none⟩) L[j].f0.length ys[j].c0, .slice (some ⟨ys[j].b1, 0, none⟩) L[j].f1.length ys[j].c1, .int .i64 L[j].f2, .int .i64 L[j].f3, .int .i64 L[j].f4.f0, .int .i64 L[j].f4.f1] := by
    unfold LV.cells
    rw [hat.n0, hat.n1, hat.r, hat.d, hat.k, hat.s]
  rw [ec, Nat.zero_add]
  exact M
set_option maxRecDepth 100000 in
set_option maxHeartbeats 4000000 in
theorem collect_leaf (gf : Nat) (fn : Func) (lb : Array Value) (hfn : Tryd.prog.funcs[gf]? = some fn) (hnm : (fn.name == "runtime.NumGoroutine") = false) {bc : Code} (hbody : fn.body = some bc) (L : List S52) (hL : L.length ≤ 1000000) (w : World)
    (hseq : ∀ w1 : World, Below w.heap.size w w1 → w1.heap.size = w.heap.size + 1 → Boxed w1 w.heap.size 45 (.slice none 0 0) → SeqR Fence.wide 5 Tryd.prog gf lb (fun x : LV => #[.agg x.arr]) (KeepC w.heap.size w.heap.size) (RdL w.heap.size L) (fun ys => ys.length = L.length) (fun _ => True) L.length w1) :
    Calls Tryd.prog 41 #[.func (.func gf) #[] lb] w fun e w' => ∃ v, e = .returned v ∧ Kd.S k52 52 w' w.heap.size (fun _ => True) v L ∧ Below w.heap.size w w' := by
  go_enter Tryd.func41, Tryd.ntmps41
  go_wp2_with fail
  refine (append_leaf gf fn lb hfn hnm hbody L hL _ hseq).mono ?_
  rintro e w1 ⟨v, ys, rfl, hys, ho, ha, hb⟩
  have hS := Lib.hid (lv_S ho hys ha)
  have HB := Lib.hid hb
  clear ho ha hb
  go_wp2_with fail
  go_ret
  exact ⟨v, rfl, hS.out, HB.out⟩


end Go.Proofs.YtjdjlccdidfgoaaDoor.H
end
