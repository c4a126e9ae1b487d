/- Texts of the claim, packed: H31. -/
import Derived.Deep.RegionHeld3
import Derived.Lib.Hide
import Derived.LoopIn
import Derived.OwnWalkIn
import Derived.RangeFuncBound
import Derived.RangeFuncBox
import Derived.RangeFuncCalls
import Derived.RangeFuncFrom
import Derived.RangeFuncLeaves
import Derived.RangeFuncNested
import Derived.RangeFuncWrites
import Derived.TacticsInMore
import Derived.Test.YtjdjlccdidfgoaaDoorZSchemaLeaves7
import Derived.Test.YtjdjlccdidfgoaaDoorZSchemaLeaves11
import Derived.Test.YtjdjlccdidfgoaaDoorZSchemaLeaves12
section
-- Laid by this session's hprint.py, out of the kit's print.py and texts of the session. Not trusted: Lean checks it.
namespace Go.Proofs.YtjdjlccdidfgoaaDoor.H
open Go.RowKit Go.Proofs.YtjdjlccdidfgoaaDoorW.PrintWords Go.Proofs.YtjdjlccdidfgoaaDoorW.PrintLast Go.Proofs.YtjdjlccdidfgoaaDoorW.PrintMore
attribute [local go_sem] max2_int min2_int max_two min_two max_three min_three max_four min_four   -- for this text's walks alone
set_option linter.unusedVariables false
set_option linter.unusedSimpArgs false

-- OVPART Derived.RangeFuncFrom Derived.RangeFuncBox Derived.RangeFuncWrites Derived.RangeFuncNested Derived.RangeFuncBound Derived.RangeFuncCalls Derived.RangeFuncLeaves Derived.Deep.RegionHeld3 Derived.Lib.Hide Derived.TacticsInMore Derived.LoopIn Derived.OwnWalkIn
/-! ### schema_leaves_1: function 59 -/
open Go.Shelf
attribute [local go_sem] Oper.semAt_some
theorem KeepC.of_below {n₀ NB : Nat} {W W' : World} (hn : n₀ ≤ W.heap.size) (h : Below W.heap.size W W') : KeepC n₀ NB W W' :=
  ⟨h.mono hn, h.size, fun k o hk _ _ => blk_below hk h, fun o ho hc => ⟨⟨o, blk_below ho h, hc⟩, fun A n c hA => .inr ⟨A, n, c, by
    rw [← hA]
    exact (World.cell?_of_block (w := W) ((blk_below ho h).trans ho.symm)).symm, rfl⟩⟩⟩
theorem KeepC.grown {n₀ NB : Nat} {A B C : World} {row : Option Nat} (h : KeepC n₀ NB A B) (hn : n₀ ≤ A.heap.size) (hg : B.grownBy C row) (hr : ∀ r, row = some r → n₀ ≤ r ∧ ∃ o : Obj, B.heap[r]? = some o ∧ o.isCells = false) : KeepC n₀ NB A C := by
  have hsame : ∀ (k : Nat) (o : Obj), B.heap[k]? = some o → o.isCells = true → C.heap[k]? = some o := fun k o hk hc =>
    (hg.block k (Array.getElem?_eq_some_iff.1 hk).1 (fun e => by
      obtain ⟨_, o', ho', hc'⟩ := hr k e.symm
      rw [hk] at ho'
      rw [← Option.some.inj ho'] at hc'
      rw [hc] at hc'
      cases hc')).trans hk
  refine h.trans ⟨(Below.refl n₀ B).grown hg (Nat.le_trans hn h.size) (fun k e => (hr k e).1), hg.size, fun k o hk hc _ => hsame k o hk hc, fun o ho hc => ⟨⟨o, hsame NB o ho hc, hc⟩, fun D n c hD => .inr ⟨D, n, c, ?_, rfl⟩⟩⟩
  rw [← hD]
  exact (World.cell?_of_block (w := B) ((hsame NB o ho hc).trans ho.symm)).symm
/-- The collector's box is there, and its row is none that is to come. -/
structure RowIn (NB : Nat) (W : World) : Prop where
  box : ∃ o, W.heap[NB]? = some o ∧ o.isCells = true
  row : ∀ A n c, W.cell? ⟨NB, 0, none⟩ = some (.slice (some A) n c) → A.block < W.heap.size
theorem RowIn.next {n₀ NB : Nat} {W W' : World} (h : RowIn NB W) (hc : KeepC n₀ NB W W') : RowIn NB W' := by
  obtain ⟨o, ho, hoc⟩ := h.box
  obtain ⟨hb, hr⟩ := hc.row o ho hoc
  refine ⟨hb, fun A n c hA => ?_⟩
  rcases hr A n c hA with hr | ⟨A', n', c', hr, e⟩
  · exact hr.2
  · have := h.row A' n' c' hr
    have := hc.size
    omega
theorem RowIn.below {NB : Nat} {W W' : World} (h : RowIn NB W) (hb : Below W.heap.size W W') : RowIn NB W' := h.next (KeepC.of_below (n₀ := 0) (Nat.zero_le _) hb)
theorem Free_.fresh {NB k : Nat} {W0 W : World} (h : RowIn NB W0) (hb : Below W0.heap.size W0 W) (hk : W0.heap.size ≤ k) : Free_ NB W k := by
  obtain ⟨o, ho, hoc⟩ := h.box
  have hlt := blk_lt ho
  refine ⟨by omega, ⟨o, blk_below ho hb, hoc⟩, fun A n c hA => ?_⟩
  have := h.row A n c ((hb.cell (p := ⟨NB, 0, none⟩) hlt).symm.trans hA)
  omega
theorem Free_.below {NB k : Nat} {W W' : World} (h : Free_ NB W k) (hk : k < W.heap.size) (hb : Below W.heap.size W W') : Free_ NB W' k := h.next hk (KeepC.of_below (n₀ := 0) (Nat.zero_le _) hb)
/-- A row of one's own that the collector leaves alone. -/
structure RdS (T : TypeId) (NB : Nat) (v : Value) (xs : List Value) (W : World) : Prop where
  own : W.ownsRow 0 T 1 v xs.length xs
  free : ∀ k, v.ownBlock = some k → Free_ NB W k
theorem RdS.next {T : TypeId} {n₀ NB : Nat} {v : Value} {xs : List Value} {W W' : World} (h : RdS T NB v xs W) (hc : KeepC n₀ NB W W') : RdS T NB v xs W' :=
  ⟨own_move h.own (fun k hk => by
    obtain ⟨cells, hcl⟩ := own_typed h.own k hk
    exact (hc.cells k _ hcl rfl (h.free k hk)).trans hcl.symm), fun k hk => (h.free k hk).next (own_lt h.own k hk) hc⟩
theorem RdS.below {T : TypeId} {NB : Nat} {v : Value} {xs : List Value} {W W' : World} (h : RdS T NB v xs W) (hb : Below W.heap.size W W') : RdS T NB v xs W' := h.next (KeepC.of_below (n₀ := 0) (Nat.zero_le _) hb)
theorem row_at {T base n : Nat} {v : Value} {xs : List Value} {W : World} (h : W.ownsRow base T 1 v (n + 1) xs) : ∃ g cap, v = .slice (some ⟨g, 0, none⟩) (n + 1) cap ∧ base ≤ g ∧ n + 1 ≤ cap ∧ cap ≤ maxLen ∧ ∃ cur : Array Value, W.heap[g]? = some (.cells cur T (0, 0)) ∧ cur.toList.take (n + 1) = xs ∧ cur.size = cap := by
  rcases h.2 with ⟨_, h0⟩ | ⟨g, cap, cur, hv, hg, hh, h1, h2, h3, h4⟩
  · omega
  · exact ⟨g, cap, hv, hg, h1, h2, cur, hh, by rw [← h4, Nat.mul_one], by rw [h3, Nat.mul_one]⟩
mutual
/-- How many nodes there are. -/
def numNs : List S62 → Nat
  | [] => 0
  | ⟨_, _, _, _, _, k⟩ :: xs => 1 + numNs k + numNs xs
end
theorem numNs_cons (x : S62) (xs : List S62) : numNs (x :: xs) = 1 + numNs x.f5 + numNs xs := by
  cases x
  rw [numNs]
theorem numNs_app (a b : List S62) : numNs (a ++ b) = numNs a + numNs b := by
  induction a with
  | nil => rw [List.nil_append, numNs]; omega
  | cons x a ih => rw [List.cons_append, numNs_cons, numNs_cons, ih]; omega
theorem numNs_at (l : List S62) (k : Nat) (h : k < l.length) : numNs l[k].f5 + 1 ≤ numNs l := by
  have e : l = l.take k ++ (l[k] :: l.drop (k + 1)) := by rw [← List.drop_eq_getElem_cons h, List.take_append_drop]
  have h1 := congrArg numNs e
  rw [numNs_app, numNs_cons] at h1
  omega
theorem leavesL_app (a b : List S62) (path : List ByteArray) (steps : List Int) (r d : Int) : leavesL (a ++ b) path steps r d = leavesL a path steps r d ++ leavesL b path steps r d := by
  induction a with
  | nil => rw [List.nil_append, leavesL_nil, List.nil_append]
  | cons x a ih => rw [List.cons_append, leavesL_cons, leavesL_cons, ih, List.append_assoc]
theorem leavesL_at (l : List S62) (k : Nat) (h : k < l.length) (path : List ByteArray) (steps : List Int) (r d : Int) : leavesL l path steps r d = leavesL (l.take k) path steps r d ++ (leavesN l[k] path steps r d ++ leavesL (l.drop (k + 1)) path steps r d) := by
  rw [← leavesL_cons, ← leavesL_app, ← List.drop_eq_getElem_cons h, List.take_append_drop]
theorem leavesL_next (l : List S62) (k : Nat) (h : k < l.length) (path : List ByteArray) (steps : List Int) (r d : Int) : leavesL (l.take (k + 1)) path steps r d = leavesL (l.take k) path steps r d ++ leavesN l[k] path steps r d := by
  rw [List.take_succ_eq_append_getElem h, leavesL_app, leavesL_cons, leavesL_nil, List.append_nil]
theorem leavesL_len (n : Nat) : ∀ (l : List S62), numNs l ≤ n → ∀ (path : List ByteArray) (steps : List Int) (r d : Int), (leavesL l path steps r d).length ≤ numNs l := by
  induction n with
  | zero =>
    intro l hl
    cases l with
    | nil => intros; rw [leavesL_nil]; simp
    | cons x xs => rw [numNs_cons] at hl; omega
  | succ n ih =>
    intro l
    induction l with
    | nil => intros; rw [leavesL_nil]; simp
    | cons x xs ihx =>
      intro hl path steps r d
      rw [numNs_cons] at hl ⊢
      rw [leavesL_cons, List.length_append]
      have h1 := ihx (by omega) path steps r d
      unfold leavesN
      split
      · have h2 := ih x.f5 (by omega) (path ++ [x.f0]) (steps ++ [x.f1]) (if x.f1 = 2 then r + 1 else r) (if x.f1 = 0 then d else d + 1)
        omega
      · simp only [List.length_singleton]
        omega
theorem LvAt.lower {base base' : Nat} {f : S52} {x : LV} {W : World} (h : LvAt base f x W) (hb : base' ≤ base) : LvAt base' f x W := { h with g0 := Nat.le_trans hb h.g0, g1 := Nat.le_trans hb h.g1 }
/-- The blocks of values that have been are there. -/
def AllLt (ys : List LV) (n : Nat) : Prop := ∀ y ∈ ys, y.b0 < n ∧ y.b1 < n
theorem AllLt.mono {ys : List LV} {n m : Nat} (h : AllLt ys n) (hm : n ≤ m) : AllLt ys m := fun y hy => ⟨Nat.lt_of_lt_of_le (h y hy).1 hm, Nat.lt_of_lt_of_le (h y hy).2 hm⟩
theorem AllLt.snoc {ys : List LV} {x : LV} {n base : Nat} {f : S52} {W : World} (h : AllLt ys n) (hx : LvAt base f x W) (hm : n ≤ W.heap.size) : AllLt (ys ++ [x]) W.heap.size := by
  intro y hy
  rcases List.mem_append.1 hy with hy | hy
  · exact h.mono hm y hy
  · obtain rfl := List.mem_singleton.1 hy
    obtain ⟨_, e0, _⟩ := hx.h0
    obtain ⟨_, e1, _⟩ := hx.h1
    exact ⟨blk_lt e0, blk_lt e1⟩
theorem AllLt.far {ys : List LV} {x : LV} {n : Nat} {f : S52} {W : World} (h : AllLt ys n) (hx : LvAt n f x W) : ∀ y ∈ ys, LvFar y x := fun y hy => by
  have h1 := h y hy
  have h2 := hx.g0
  have h3 := hx.g1
  exact ⟨by omega, by omega, by omega, by omega⟩
/-- What an inner list yields is what the whole one yields next. -/
theorem RdL.outer {base n : Nat} {L M A B : List S52} {ys pre : List LV} {x : LV} {W : World} (h : RdL n M pre x W) (hL : L = A ++ (M ++ B)) (hys : ys.length = A.length) (hb : base ≤ n) (hlt : AllLt ys n) : RdL base L (ys ++ pre) x W := by
  obtain ⟨⟨h1, h2⟩, h3⟩ := h
  subst hL
  have hlen : (ys ++ pre).length < (A ++ (M ++ B)).length := by simp only [List.length_append]; omega
  have e : (A ++ (M ++ B))[(ys ++ pre).length] = M[pre.length] := by
    have hi : (ys ++ pre).length = A.length + pre.length := by rw [List.length_append, hys]
    simp only [hi]
    rw [List.getElem_append_right (by omega)]
    simp only [Nat.add_sub_cancel_left]
    rw [List.getElem_append_left h1]
  refine ⟨⟨hlen, by rw [e]; exact h2.lower hb⟩, fun y hy => ?_⟩
  rcases List.mem_append.1 hy with hy | hy
  · exact hlt.far h2 y hy
  · exact h3 y hy
/-- What has come of a region: the chain of six, and the three that make memory and stand apart. -/
def latL (p : Nat) (b5 b12 b19 : Bool) : Array Bool := #[true, true, decide (1 ≤ p), true, true, b5, decide (2 ≤ p), true, true, decide (3 ≤ p), true, true, b12, decide (4 ≤ p), true, true, true, true, decide (5 ≤ p), b19, decide (6 ≤ p)]
def latR (p : Nat) (b5 b12 b19 : Bool) : List Nat := (if p = 0 then [2] else []) ++ (if b5 = false then [5] else []) ++ (if p = 1 ∧ b5 = true then [6] else []) ++ (if p = 2 then [9] else []) ++ (if b12 = false then [12] else []) ++ (if p = 3 ∧ b12 = true then [13] else []) ++ (if p = 4 then [18] else []) ++ (if b19 = false then [19] else []) ++ (if p = 5 ∧ b19 = true then [20] else [])
def latV (p : Nat) (b5 b12 b19 : Bool) : Bool := decide (p ≤ 6) && (decide (p < 2) || b5) && (decide (p < 4) || b12) && (decide (p < 6) || b19)
/-- A step of the chain, as a region's walk wants it. -/
def LatEv (P : Program) (ops : Array Oper) (Q : Exit → Act → World → Prop) (i : Nat) (I I' : Act → World → Prop) : Prop :=
  ∃ o, ops[i]? = some o ∧ ∀ a w, I a w → ∀ K' : Act → World → Prop, Shut (∀ a' w', I' a' w' → K' a' w') → if Region.wanted o (yielded ops a.tmps) = true then Oper.wp P o a w K' Q else K' (a.put o.dst undef) w
theorem LatEv.op {P : Program} {ops : Array Oper} {Q : Exit → Act → World → Prop} {i : Nat} {I I' : Act → World → Prop} (h : LatEv P ops Q i I I') {S : World → Prop} {fuel : Nat} {listed : Array Bool} {a : Act} {w : World} (hI : I a w)
    (hS : ∀ a w, I' a w → S w) (hk : ∀ a w, I' a w → wpAnyH P .any ops Q S fuel listed a w) : wpOp P ops Q i (fun a' w' => S w' ∧ wpAnyH P .any ops Q S fuel listed a' w') a w := by
  obtain ⟨o, ho, h⟩ := h
  exact wpOp_step ho (fun K' hK => h a w hI K' (fun a' w' hI' => hK a' w' ⟨hS a' w' hI', hk a' w' hI'⟩))
def latOk (ops : Array Oper) : Bool := (List.range 7).all fun p => [true, false].all fun b5 => [true, false].all fun b12 => [true, false].all fun b19 => !latV p b5 b12 b19 || decide (Region.ready .any ops (latL p b5 b12 b19) = latR p b5 b12 b19)
theorem latOk_at {ops : Array Oper} (h : latOk ops = true) (p : Nat) (b5 b12 b19 : Bool) (hv : latV p b5 b12 b19 = true) : Region.ready .any ops (latL p b5 b12 b19) = latR p b5 b12 b19 := by
  unfold latOk at h
  have hp : p < 7 := by
    unfold latV at hv
    simp only [Bool.and_eq_true, decide_eq_true_eq] at hv
    omega
  have h1 := List.all_eq_true.1 h p (List.mem_range.2 hp)
  have h2 := List.all_eq_true.1 h1 b5 (by cases b5 <;> simp)
  have h3 := List.all_eq_true.1 h2 b12 (by cases b12 <;> simp)
  have h4 := List.all_eq_true.1 h3 b19 (by cases b19 <;> simp)
  rw [hv] at h4
  simpa using h4
theorem lattice_ {P : Program} {ops : Array Oper} {Q : Exit → Act → World → Prop} {S : World → Prop} (I : Nat → Bool → Bool → Bool → Act → World → Prop) (hok : latOk ops = true) (hS : ∀ p b5 b12 b19 a w, I p b5 b12 b19 a w → S w)
    (h2 : ∀ b5 b12 b19, LatEv P ops Q 2 (I 0 b5 b12 b19) (I 1 b5 b12 b19)) (h6 : ∀ b12 b19, LatEv P ops Q 6 (I 1 true b12 b19) (I 2 true b12 b19)) (h9 : ∀ b12 b19, LatEv P ops Q 9 (I 2 true b12 b19) (I 3 true b12 b19))
    (h13 : ∀ b19, LatEv P ops Q 13 (I 3 true true b19) (I 4 true true b19)) (h18 : ∀ b19, LatEv P ops Q 18 (I 4 true true b19) (I 5 true true b19)) (h20 : LatEv P ops Q 20 (I 5 true true true) (I 6 true true true))
    (h5 : ∀ p b12 b19, LatEv P ops Q 5 (I p false b12 b19) (I p true b12 b19)) (h12 : ∀ p b5 b19, LatEv P ops Q 12 (I p b5 false b19) (I p b5 true b19)) (h19 : ∀ p b5 b12, p < 6 → LatEv P ops Q 19 (I p b5 b12 false) (I p b5 b12 true))
    (hend : ∀ a w, I 6 true true true a w → Q .normal a w) :
    ∀ (fuel p : Nat) (b5 b12 b19 : Bool) (a : Act) (w : World), latV p b5 b12 b19 = true → (6 - p) + (if b5 then 0 else 1) + (if b12 then 0 else 1) + (if b19 then 0 else 1) ≤ fuel → I p b5 b12 b19 a w → wpAnyH P .any ops Q S fuel (latL p b5 b12 b19) a w := by
  have hfin : ∀ (p : Nat) (b5 b12 b19 : Bool) (a : Act) (w : World), latV p b5 b12 b19 = true → Region.ready .any ops (latL p b5 b12 b19) = [] → I p b5 b12 b19 a w → Q .normal a w := by
    intro p b5 b12 b19 a w hv hr hI
    rw [latOk_at hok _ _ _ _ hv] at hr
    unfold latV at hv
    unfold latR at hr
    simp only [Bool.and_eq_true, decide_eq_true_eq, Bool.or_eq_true] at hv
    cases b5 <;> cases b12 <;> cases b19 <;> simp at hr hv
    have : p = 6 := by omega
    subst this
    exact hend a w hI
  intro fuel
  induction fuel with
  | zero =>
    intro p b5 b12 b19 a w hv hf hI
    have hp : p = 6 ∧ b5 = true ∧ b12 = true ∧ b19 = true := by
      unfold latV at hv
      simp only [Bool.and_eq_true, decide_eq_true_eq] at hv
      cases b5 <;> cases b12 <;> cases b19 <;> simp at hf ⊢
      omega
    obtain ⟨rfl, rfl, rfl, rfl⟩ := hp
    exact ⟨latOk_at hok _ _ _ _ hv, hend a w hI⟩
  | succ fuel ih =>
    intro p b5 b12 b19 a w hv hf hI
    refine ⟨fun hr => hfin p b5 b12 b19 a w hv hr hI, fun i hi => ?_⟩
    rw [latOk_at hok _ _ _ _ hv] at hi
    have hv' := hv
    unfold latV at hv'
    unfold latR at hi
    simp only [Bool.and_eq_true, decide_eq_true_eq, Bool.or_eq_true] at hv'
    simp only [List.mem_append] at hi
    rcases hi with (((((((hi | hi) | hi) | hi) | hi) | hi) | hi) | hi) | hi
    · split at hi
      case isFalse => cases hi
      case isTrue hp =>
        obtain rfl := List.mem_singleton.1 hi
        subst hp
        refine (h2 b5 b12 b19).op hI (hS _ _ _ _) (fun a' w' hI' => ?_)
        exact ih 1 b5 b12 b19 a' w' (by cases b5 <;> cases b12 <;> cases b19 <;> rfl) (by omega) hI'
    · split at hi
      case isFalse => cases hi
      case isTrue hp =>
        obtain rfl := List.mem_singleton.1 hi
        subst hp
        refine (h5 p b12 b19).op hI (hS _ _ _ _) (fun a' w' hI' => ?_)
        have := ih p true b12 b19 a' w' (by unfold latV; simp only [Bool.and_eq_true, decide_eq_true_eq, Bool.or_eq_true]; simp_all) (by simp at hf ⊢; omega) hI'
        exact this
    · split at hi
      case isFalse => cases hi
      case isTrue hp =>
        obtain rfl := List.mem_singleton.1 hi
        obtain ⟨rfl, rfl⟩ := hp
        refine (h6 b12 b19).op hI (hS _ _ _ _) (fun a' w' hI' => ?_)
        exact ih 2 true b12 b19 a' w' (by cases b12 <;> cases b19 <;> rfl) (by omega) hI'
    · split at hi
      case isFalse => cases hi
      case isTrue hp =>
        obtain rfl := List.mem_singleton.1 hi
        subst hp
        obtain rfl : b5 = true := by simpa using hv'.1.1.2
        refine (h9 b12 b19).op hI (hS _ _ _ _) (fun a' w' hI' => ?_)
        exact ih 3 true b12 b19 a' w' (by cases b12 <;> cases b19 <;> rfl) (by omega) hI'
    · split at hi
      case isFalse => cases hi
      case isTrue hp =>
        obtain rfl := List.mem_singleton.1 hi
        subst hp
        refine (h12 p b5 b19).op hI (hS _ _ _ _) (fun a' w' hI' => ?_)
        exact ih p b5 true b19 a' w' (by unfold latV; simp only [Bool.and_eq_true, decide_eq_true_eq, Bool.or_eq_true]; simp_all) (by simp at hf ⊢; omega) hI'
    · split at hi
      case isFalse => cases hi
      case isTrue hp =>
        obtain rfl := List.mem_singleton.1 hi
        obtain ⟨rfl, rfl⟩ := hp
        obtain rfl : b5 = true := by simpa using hv'.1.1.2
        refine (h13 b19).op hI (hS _ _ _ _) (fun a' w' hI' => ?_)
        exact ih 4 true true b19 a' w' (by cases b19 <;> rfl) (by omega) hI'
    · split at hi
      case isFalse => cases hi
      case isTrue hp =>
        obtain rfl := List.mem_singleton.1 hi
        subst hp
        obtain rfl : b5 = true := by simpa using hv'.1.1.2
        obtain rfl : b12 = true := by simpa using hv'.1.2
        refine (h18 b19).op hI (hS _ _ _ _) (fun a' w' hI' => ?_)
        exact ih 5 true true b19 a' w' (by cases b19 <;> rfl) (by omega) hI'
    · split at hi
      case isFalse => cases hi
      case isTrue hp =>
        obtain rfl := List.mem_singleton.1 hi
        subst hp
        refine (h19 p b5 b12 (by simpa using hv'.2)).op hI (hS _ _ _ _) (fun a' w' hI' => ?_)
        exact ih p b5 b12 true a' w' (by unfold latV; simp only [Bool.and_eq_true, decide_eq_true_eq, Bool.or_eq_true]; simp_all) (by simp at hf ⊢; omega) hI'
    · split at hi
      case isFalse => cases hi
      case isTrue hp =>
        obtain rfl := List.mem_singleton.1 hi
        obtain ⟨rfl, rfl⟩ := hp
        obtain rfl : b5 = true := by simpa using hv'.1.1.2
        obtain rfl : b12 = true := by simpa using hv'.1.2
        refine h20.op hI (hS _ _ _ _) (fun a' w' hI' => ?_)
        exact ih 6 true true true a' w' rfl (by omega) hI'
theorem info_str1_ : (Tryd.prog.info? 9).map (fun i => (i.zero, i.size, i.bytes)) = some (some (.string ⟨#[]⟩), 1, 16) := by kernel_rfl
theorem info_rep1_ : (Tryd.prog.info? 40).map (fun i => (i.zero, i.size, i.bytes)) = some (some (.int .i64 0), 1, 8) := by kernel_rfl
/-- What is there when so much of the region has come. -/
structure R4 (Wb : World) (path : List ByteArray) (nm : ByteArray) (steps : List Int) (rp : Int) (rd dd : Value) (p : Nat) (b5 b12 b19 : Bool) (v16 v19 v20 v23 v26 v27 v32 v6 : Value) (W : World) : Prop where
  below : Below Wb.heap.size Wb W
  q16 : p = 1 → W.ownsRow Wb.heap.size 9 1 v16 path.length (encs Value.string path)
  q19 : b5 = true → p < 2 → ∃ g, v19 = .slice (some ⟨g, 0, none⟩) 1 1 ∧ W.heap[g]? = some (.cells #[.string nm] 9 (0, 0))
  q20 : 2 ≤ p → W.ownsRow Wb.heap.size 9 1 v20 (path.length + 1) (encs Value.string path ++ [.string nm])
  q23 : p = 3 → W.ownsRow Wb.heap.size 40 1 v23 steps.length (encs (Value.int .i64) steps)
  q26 : b12 = true → p < 4 → ∃ g, v26 = .slice (some ⟨g, 0, none⟩) 1 1 ∧ W.heap[g]? = some (.cells #[.int .i64 rp] 40 (0, 0))
  q27 : 4 ≤ p → W.ownsRow Wb.heap.size 40 1 v27 (steps.length + 1) (encs (Value.int .i64) steps ++ [.int .i64 rp])
  q32 : 5 ≤ p → v32 = .agg #[v20, v27, rd, dd, .int .i64 0, .int .i64 0]
  q6 : b19 = true → ∃ g, v6 = .pointer (some ⟨g, 0, none⟩) ∧ Wb.heap.size ≤ g ∧ W.heap[g]? = some (.cells (if p = 6 then #[v20, v27, rd, dd, .int .i64 0, .int .i64 0] else #[.slice none 0 0, .slice none 0 0, .int .i64 0, .int .i64 0, .int .i64 0, .int .i64 0]) 52 (0, 0))
section
variable {Wb W W' : World} {path : List ByteArray} {nm : ByteArray} {steps : List Int} {rp : Int} {rd dd : Value} {p : Nat} {b5 b12 b19 : Bool} {v16 v19 v20 v23 v26 v27 v32 v6 : Value}
theorem R4.next (h : R4 Wb path nm steps rp rd dd p b5 b12 b19 v16 v19 v20 v23 v26 v27 v32 v6 W) (hb : Below W.heap.size W W') : R4 Wb path nm steps rp rd dd p b5 b12 b19 v16 v19 v20 v23 v26 v27 v32 v6 W' :=
  ⟨below_step h.below hb, fun e => (h.q16 e).kept (grown_of_below hb none) (by cases v16.ownBlock <;> simp), fun e f => by obtain ⟨g, h1, h2⟩ := h.q19 e f; exact ⟨g, h1, blk_below h2 hb⟩, fun e => (h.q20 e).kept (grown_of_below hb none) (by cases v20.ownBlock <;> simp), fun e => (h.q23 e).kept (grown_of_below hb none) (by cases v23.ownBlock <;> simp),
    fun e f => by obtain ⟨g, h1, h2⟩ := h.q26 e f; exact ⟨g, h1, blk_below h2 hb⟩, fun e => (h.q27 e).kept (grown_of_below hb none) (by cases v27.ownBlock <;> simp), h.q32, fun e => by obtain ⟨g, h1, h2, h3⟩ := h.q6 e; exact ⟨g, h1, h2, blk_below h3 hb⟩⟩
/-- A row is written, or grown into a new one: what lies in blocks of another type stays. -/
theorem keep_type {T T' : TypeId} {base n g : Nat} {fr : Nat × Nat} {v : Value} {xs : List Value} {cs : Array Value} (hg : W.grownBy W' v.ownBlock) (ho : W.ownsRow base T 1 v n xs) (hT : T ≠ T') (h : W.heap[g]? = some (.cells cs T' fr)) : W'.heap[g]? = some (.cells cs T' fr) :=
  (hg.block g (blk_lt h) (fun e => by
    obtain ⟨c, hc⟩ := own_typed ho g e.symm
    rw [hc] at h
    injection h with h
    injection h with _ h
    exact hT h)).trans h
theorem keep_row {T T' : TypeId} {base base' n n' : Nat} {v v' : Value} {xs xs' : List Value} (hg : W.grownBy W' v.ownBlock) (ho : W.ownsRow base T 1 v n xs) (hT : T ≠ T') (h : W.ownsRow base' T' 1 v' n' xs') : W'.ownsRow base' T' 1 v' n' xs' :=
  own_move h (fun k hk => by
    obtain ⟨c, hc⟩ := own_typed h k hk
    exact (keep_type hg ho hT hc).trans hc.symm)
theorem R4.e2 (h : R4 Wb path nm steps rp rd dd 0 b5 b12 b19 v16 v19 v20 v23 v26 v27 v32 v6 W) (hb : Below W.heap.size W W') {v : Value} (ho : W'.ownsRow W.heap.size 9 1 v path.length (encs Value.string path)) : R4 Wb path nm steps rp rd dd 1 b5 b12 b19 v v19 v20 v23 v26 v27 v32 v6 W' :=
  have k := h.next hb
  { k with q16 := fun _ => own_weaken ho h.below.size, q19 := fun e _ => k.q19 e (by omega), q20 := fun e => by omega, q23 := fun e => by omega, q26 := fun e _ => k.q26 e (by omega), q27 := fun e => by omega, q32 := fun e => by omega, q6 := k.q6 }
theorem R4.e5 (h : R4 Wb path nm steps rp rd dd p false b12 b19 v16 v19 v20 v23 v26 v27 v32 v6 W) : R4 Wb path nm steps rp rd dd p true b12 b19 v16 (.slice (some ⟨W.heap.size, 0, none⟩) 1 1) v20 v23 v26 v27 v32 v6 (W.alloc (.cells #[.string nm] 9)) :=
  { h.next (below_alloc (Below.refl _ _) _) with q19 := fun _ _ => ⟨_, rfl, blk_new W _⟩ }
theorem R4.e12 (h : R4 Wb path nm steps rp rd dd p b5 false b19 v16 v19 v20 v23 v26 v27 v32 v6 W) : R4 Wb path nm steps rp rd dd p b5 true b19 v16 v19 v20 v23 (.slice (some ⟨W.heap.size, 0, none⟩) 1 1) v27 v32 v6 (W.alloc (.cells #[.int .i64 rp] 40)) :=
  { h.next (below_alloc (Below.refl _ _) _) with q26 := fun _ _ => ⟨_, rfl, blk_new W _⟩ }
theorem R4.e19 (h : R4 Wb path nm steps rp rd dd p b5 b12 false v16 v19 v20 v23 v26 v27 v32 v6 W) (hp : p < 6) : R4 Wb path nm steps rp rd dd p b5 b12 true v16 v19 v20 v23 v26 v27 v32 (.pointer (some ⟨W.heap.size, 0, none⟩)) (W.alloc (.cells #[.slice none 0 0, .slice none 0 0, .int .i64 0, .int .i64 0, .int .i64 0, .int .i64 0] 52)) :=
  { h.next (below_alloc (Below.refl _ _) _) with q6 := fun _ => ⟨_, rfl, h.below.size, by rw [if_neg (by omega)]; exact blk_new W _⟩ }
theorem R4.e6 (h : R4 Wb path nm steps rp rd dd 1 true b12 b19 v16 v19 v20 v23 v26 v27 v32 v6 W) (hg : W.grownBy W' v16.ownBlock) {v : Value} (ho : W'.ownsRow Wb.heap.size 9 1 v (path.length + 1) (encs Value.string path ++ [.string nm])) : R4 Wb path nm steps rp rd dd 2 true b12 b19 v16 v19 v v23 v26 v27 v32 v6 W' :=
  have o := h.q16 rfl
  { below := h.below.grown hg h.below.size (fun k e => own_base o k e), q16 := fun e => by omega, q19 := fun _ e => by omega, q20 := fun _ => ho, q23 := fun e => by omega, q26 := fun e _ => by
      obtain ⟨g, h1, h2⟩ := h.q26 e (by omega)
      exact ⟨g, h1, keep_type hg o (by decide) h2⟩
    q27 := fun e => by omega, q32 := fun e => by omega, q6 := fun e => by
      obtain ⟨g, h1, h2, h3⟩ := h.q6 e
      exact ⟨g, h1, h2, keep_type hg o (by decide) h3⟩ }
theorem R4.e9 (h : R4 Wb path nm steps rp rd dd 2 true b12 b19 v16 v19 v20 v23 v26 v27 v32 v6 W) (hb : Below W.heap.size W W') {v : Value} (ho : W'.ownsRow W.heap.size 40 1 v steps.length (encs (Value.int .i64) steps)) : R4 Wb path nm steps rp rd dd 3 true b12 b19 v16 v19 v20 v v26 v27 v32 v6 W' :=
  have k := h.next hb
  { k with q16 := fun e => by omega, q19 := fun _ e => by omega, q20 := fun _ => k.q20 (by omega), q23 := fun _ => own_weaken ho h.below.size, q26 := fun e _ => k.q26 e (by omega), q27 := fun e => by omega, q32 := fun e => by omega, q6 := k.q6 }
theorem R4.e13 (h : R4 Wb path nm steps rp rd dd 3 true true b19 v16 v19 v20 v23 v26 v27 v32 v6 W) (hg : W.grownBy W' v23.ownBlock) {v : Value} (ho : W'.ownsRow Wb.heap.size 40 1 v (steps.length + 1) (encs (Value.int .i64) steps ++ [.int .i64 rp])) : R4 Wb path nm steps rp rd dd 4 true true b19 v16 v19 v20 v23 v26 v v32 v6 W' :=
  have o := h.q23 rfl
  { below := h.below.grown hg h.below.size (fun k e => own_base o k e), q16 := fun e => by omega, q19 := fun _ e => by omega, q20 := fun _ => keep_row hg o (by decide) (h.q20 (by omega)), q23 := fun e => by omega, q26 := fun _ e => by omega, q27 := fun _ => ho, q32 := fun e => by omega, q6 := fun e => by
      obtain ⟨g, h1, h2, h3⟩ := h.q6 e
      exact ⟨g, h1, h2, keep_type hg o (by decide) h3⟩ }
theorem R4.e18 (h : R4 Wb path nm steps rp rd dd 4 true true b19 v16 v19 v20 v23 v26 v27 v32 v6 W) : R4 Wb path nm steps rp rd dd 5 true true b19 v16 v19 v20 v23 v26 v27 (.agg #[v20, v27, rd, dd, .int .i64 0, .int .i64 0]) v6 W :=
  { below := h.below, q16 := fun e => by omega, q19 := fun _ e => by omega, q20 := fun _ => h.q20 (by omega), q23 := fun e => by omega, q26 := fun _ e => by omega, q27 := fun _ => h.q27 (by omega), q32 := fun _ => rfl, q6 := h.q6 }
/-- A block of six cells is filled. -/
theorem put6 {B : Nat} {T : TypeId} {c0 c1 c2 c3 c4 c5 : Value} (h : W.heap[B]? = some (.cells #[c0, c1, c2, c3, c4, c5] T (0, 0))) (x0 x1 x2 x3 x4 x5 : Value) :
    ((((((W.setCell ⟨B, 0, none⟩ x0).setCell ⟨B, 1, none⟩ x1).setCell ⟨B, 2, none⟩ x2).setCell ⟨B, 3, none⟩ x3).setCell ⟨B, 4, none⟩ x4).setCell ⟨B, 5, none⟩ x5).heap[B]? = some (.cells #[x0, x1, x2, x3, x4, x5] T (0, 0)) :=
  blk_put (blk_put (blk_put (blk_put (blk_put (blk_put h 0 x0 rfl) 1 x1 rfl) 2 x2 rfl) 3 x3 rfl) 4 x4 rfl) 5 x5 rfl
theorem far6 {B k : Nat} {o : Obj} (h : W.heap[k]? = some o) (hk : k ≠ B) (x0 x1 x2 x3 x4 x5 : Value) :
    ((((((W.setCell ⟨B, 0, none⟩ x0).setCell ⟨B, 1, none⟩ x1).setCell ⟨B, 2, none⟩ x2).setCell ⟨B, 3, none⟩ x3).setCell ⟨B, 4, none⟩ x4).setCell ⟨B, 5, none⟩ x5).heap[k]? = some o := by
  rw [Below.heap_setCell _ _ _ _ (by exact hk), Below.heap_setCell _ _ _ _ (by exact hk), Below.heap_setCell _ _ _ _ (by exact hk), Below.heap_setCell _ _ _ _ (by exact hk), Below.heap_setCell _ _ _ _ (by exact hk), Below.heap_setCell _ _ _ _ (by exact hk)]
  exact h
theorem below6 {B n : Nat} {W0 : World} (h : Below n W0 W) (hB : n ≤ B) (x0 x1 x2 x3 x4 x5 : Value) :
    Below n W0 ((((((W.setCell ⟨B, 0, none⟩ x0).setCell ⟨B, 1, none⟩ x1).setCell ⟨B, 2, none⟩ x2).setCell ⟨B, 3, none⟩ x3).setCell ⟨B, 4, none⟩ x4).setCell ⟨B, 5, none⟩ x5) :=
  (((((h.setCell (p := ⟨B, 0, none⟩) hB x0).setCell (p := ⟨B, 1, none⟩) hB x1).setCell (p := ⟨B, 2, none⟩) hB x2).setCell (p := ⟨B, 3, none⟩) hB x3).setCell (p := ⟨B, 4, none⟩) hB x4).setCell (p := ⟨B, 5, none⟩) hB x5
/-- A row of another type is not touched when a leaf's block is filled. -/
theorem row6 {B T n base : Nat} {v : Value} {xs : List Value} {cs : Array Value} (h : W.ownsRow base T 1 v n xs) (hB : W.heap[B]? = some (.cells cs 52 (0, 0))) (hT : T ≠ 52) (x0 x1 x2 x3 x4 x5 : Value) :
    ((((((W.setCell ⟨B, 0, none⟩ x0).setCell ⟨B, 1, none⟩ x1).setCell ⟨B, 2, none⟩ x2).setCell ⟨B, 3, none⟩ x3).setCell ⟨B, 4, none⟩ x4).setCell ⟨B, 5, none⟩ x5).ownsRow base T 1 v n xs :=
  own_move h (fun k hk => by
    obtain ⟨c, hc⟩ := own_typed h k hk
    exact (far6 hc (fun e => by
      subst e
      rw [hc] at hB
      injection hB with hB
      injection hB with _ hB
      exact hT hB) x0 x1 x2 x3 x4 x5).trans hc.symm)
theorem R4.e20 (h : R4 Wb path nm steps rp rd dd 5 true true true v16 v19 v20 v23 v26 v27 v32 v6 W) {B : Nat} (hv : v6 = .pointer (some ⟨B, 0, none⟩)) :
    R4 Wb path nm steps rp rd dd 6 true true true v16 v19 v20 v23 v26 v27 v32 v6 ((((((W.setCell ⟨B, 0, none⟩ v20).setCell ⟨B, 1, none⟩ v27).setCell ⟨B, 2, none⟩ rd).setCell ⟨B, 3, none⟩ dd).setCell ⟨B, 4, none⟩ (.int .i64 0)).setCell ⟨B, 5, none⟩ (.int .i64 0)) := by
  obtain ⟨g, h1, h2, h3⟩ := h.q6 rfl
  rw [h1] at hv
  simp only [Value.pointer.injEq, Option.some.injEq, Addr.mk.injEq, and_true] at hv
  subst hv
  rw [if_neg (by decide)] at h3
  exact { below := below6 h.below h2 _ _ _ _ _ _, q16 := fun e => by omega, q19 := fun _ e => by omega, q20 := fun _ => row6 (h.q20 (by omega)) h3 (by decide) _ _ _ _ _ _, q23 := fun e => by omega, q26 := fun _ e => by omega, q27 := fun _ => row6 (h.q27 (by omega)) h3 (by decide) _ _ _ _ _ _, q32 := fun _ => h.q32 (by omega), q6 := fun _ => ⟨g, h1, h2, by rw [if_pos rfl]; exact put6 h3 _ _ _ _ _ _⟩ }
end
theorem at_dropL {ops : Array Oper} {i : Nat} {oi : Oper} {rest : List Oper} (h : ops.toList.drop i = oi :: rest) : ops[i]? = some oi := by
  rw [← Array.getElem?_toList]
  have e : (ops.toList.drop i)[0]? = some oi := by rw [h]; rfl
  simpa using e
theorem tkL_ {P : Program} {ops : Array Oper} {Q : Exit → Act → World → Prop} {S : World → Prop} {md : Region.Mode} (i : Nat) (N : Option Tmp) {oi : Oper} {rest : List Oper} {v : Value} {fuel : Nat} {listed : Array Bool} {a : Act} {w : World} (hl : ops.toList.drop i = oi :: rest) (hN : oi.dst = N)
    (hv : ∀ w, S w → (execOp a.eval oi).run P w = .ok (.value v) w) (h : wpAnyH P md ops Q S fuel (listed.setIfInBounds i true) (a.put N v) w)
    (hs : Region.noSelect ops = true := by kernel_rfl) (hf : Region.free md ops listed i = true := by kernel_rfl) (hr : (Region.ready md ops listed).contains i = true := by kernel_rfl)
    (hw : Region.wanted oi (yielded ops a.tmps) = true := by rfl) (hS : S w := by assumption) (hQ : ∀ c a w, Q (.panic c) (a.put N v) w → Q (.panic c) a w := by exact fun _ _ _ h => h) : wpAnyH P md ops Q S (fuel + 1) listed a w := by
  subst hN
  exact wpAnyH_take (at_dropL hl) hs hf hr hQ (.inl ⟨hw, hv⟩) hS h
/-- An append in a region that draws its order. -/
theorem apOp_ {P : Program} {ops : Array Oper} {o : Oper} {a : Act} {K' : Act → World → Prop} {Q : Exit → Act → World → Prop} (w : World)
    (hg : o.guard = none) (s x : Operand) (t : TypeId) (hop : o.op = Op.call { callee := Callee.builtin Builtin.append, args := #[s, x], argTypes := #[t, t] })
    (base : Nat) (e : TypeId) (i : TypeInfo) (z : Value) (bytes : Nat) (h1 : P.underlying t = some (.slice e)) (h2 : P.info? e = some i) (h3 : i.zero = some z) (h4 : i.size = 1) (h5 : i.bytes = bytes) (h6 : z.cells.size = 1)
    (v : Value) (k : Nat) (xs : List Value) (hs : a.eval s = v) (hown : w.ownsRow base e 1 v k xs) (g : Nat) (u : Value) (hx : a.eval x = .slice (some ⟨g, 0, none⟩) 1 1)
    (hc : w.heap[g]? = some (.cells #[u] e (0, 0))) (h1c : u.oneCell' = true) (b1 : k + 1 ≤ maxLen) (b2 : (k + 1) * bytes ≤ 140737488355328) (b3 : base ≤ w.heap.size)
    (hK : ∀ v' w', w'.ownsRow base e 1 v' (k + 1) (xs ++ [u]) → w.grownBy w' v.ownBlock → K' (a.put o.dst v') w') :
    if Region.wanted o (yielded ops a.tmps) = true then Oper.wp P o a w K' Q else K' (a.put o.dst undef) w := by
  rw [if_pos (by simp [Region.wanted, hg])]
  obtain ⟨v', w', hrun, r1, r2, _, r4⟩ := run_append_own_at (P := P) w base t o.type e i z 1 bytes h1 h2 h3 h4 h5 h6 (by decide) v k xs hown ⟨g, 0, none⟩ 1 1 [u] rfl (fun j y hj => by
    match j with
    | 0 =>
      simp only [List.getElem?_cons_zero, Option.some.injEq] at hj
      subst hj
      exact blk_cell hc 0
    | j + 1 => simp at hj) (fun y hy => by obtain rfl := List.mem_singleton.1 hy; exact h1c) b1 b2 b3
  unfold Oper.wp
  simp [execOp, hop, resolve, invoke, builtin, hs, hx, hrun, Result.andThen]
  exact hK _ _ r1 r2
theorem wpIn_calm {F : Fence} {n : Nat} {P : Program} {c : Code} {K : Act → World → Prop} {Q : Exit → Act → World → Prop} {a : Act} {w : World} (h : c.wpIn F n P (Exit.then K (fun _ _ _ => False)) a w) : c.wpIn F n P (Exit.then K Q) a w :=
  wpIn_mono h fun e a w he => by
    cases e with
    | normal => exact he
    | _ => exact he.elim
/-- The leaf's block behind the region, and the node's. -/
structure T4 (Wb : World) (nb : Nat) (nc : Array Value) (g6 : Nat) (xs ys : List Value) (n20 n27 : Nat) (v20 v27 : Value) (r d k s : Int) (W : World) : Prop where
  below : Below Wb.heap.size Wb W
  nd : W.heap[nb]? = some (.cells nc 62 (0, 0))
  lf : W.heap[g6]? = some (.cells #[v20, v27, .int .i64 r, .int .i64 d, .int .i64 k, .int .i64 s] 52 (0, 0))
  o20 : W.ownsRow Wb.heap.size 9 1 v20 n20 xs
  o27 : W.ownsRow Wb.heap.size 40 1 v27 n27 ys
  ge : Wb.heap.size ≤ g6
  lt : nb < Wb.heap.size
section
variable {Wb W W' : World} {nb g6 n20 n27 : Nat} {nc : Array Value} {xs ys : List Value} {v20 v27 : Value} {r d k s : Int}
theorem T4.set (h : T4 Wb nb nc g6 xs ys n20 n27 v20 v27 r d k s W) (j : Nat) (u : Value) : Below Wb.heap.size Wb (W.setCell ⟨g6, j, none⟩ u) ∧ (W.setCell ⟨g6, j, none⟩ u).heap[nb]? = some (.cells nc 62 (0, 0)) ∧ (W.setCell ⟨g6, j, none⟩ u).ownsRow Wb.heap.size 9 1 v20 n20 xs ∧ (W.setCell ⟨g6, j, none⟩ u).ownsRow Wb.heap.size 40 1 v27 n27 ys := by
  have hne : ∀ (T n base : Nat) (v : Value) (zs : List Value), W.ownsRow base T 1 v n zs → T ≠ 52 → (W.setCell ⟨g6, j, none⟩ u).ownsRow base T 1 v n zs := fun T n base v zs ho hT => own_move ho (fun q hq => Below.heap_setCell W ⟨g6, j, none⟩ u q (fun e => by
    obtain ⟨c, hc⟩ := own_typed ho q hq
    have hl := h.lf
    have e' : q = g6 := e
    subst e'
    rw [hc] at hl
    injection hl with hl
    injection hl with _ hl
    exact hT hl))
  exact ⟨h.below.setCell (p := ⟨g6, j, none⟩) h.ge u, (Below.heap_setCell W ⟨g6, j, none⟩ u nb (by have := h.ge; have := h.lt; show nb ≠ g6; omega)).trans h.nd, hne _ _ _ _ _ h.o20 (by decide), hne _ _ _ _ _ h.o27 (by decide)⟩
theorem T4.set2 (h : T4 Wb nb nc g6 xs ys n20 n27 v20 v27 r d k s W) (r' : Int) : T4 Wb nb nc g6 xs ys n20 n27 v20 v27 r' d k s (W.setCell ⟨g6, 2, none⟩ (.int .i64 r')) :=
  have q := h.set 2 (.int .i64 r')
  ⟨q.1, q.2.1, blk_put h.lf 2 _ rfl, q.2.2.1, q.2.2.2, h.ge, h.lt⟩
theorem T4.set3 (h : T4 Wb nb nc g6 xs ys n20 n27 v20 v27 r d k s W) (d' : Int) : T4 Wb nb nc g6 xs ys n20 n27 v20 v27 r d' k s (W.setCell ⟨g6, 3, none⟩ (.int .i64 d')) :=
  have q := h.set 3 (.int .i64 d')
  ⟨q.1, q.2.1, blk_put h.lf 3 _ rfl, q.2.2.1, q.2.2.2, h.ge, h.lt⟩
theorem T4.set4 (h : T4 Wb nb nc g6 xs ys n20 n27 v20 v27 r d k s W) (k' : Int) : T4 Wb nb nc g6 xs ys n20 n27 v20 v27 r d k' s (W.setCell ⟨g6, 4, none⟩ (.int .i64 k')) :=
  have q := h.set 4 (.int .i64 k')
  ⟨q.1, q.2.1, blk_put h.lf 4 _ rfl, q.2.2.1, q.2.2.2, h.ge, h.lt⟩
theorem T4.set5 (h : T4 Wb nb nc g6 xs ys n20 n27 v20 v27 r d k s W) (s' : Int) : T4 Wb nb nc g6 xs ys n20 n27 v20 v27 r d k s' (W.setCell ⟨g6, 5, none⟩ (.int .i64 s')) :=
  have q := h.set 5 (.int .i64 s')
  ⟨q.1, q.2.1, blk_put h.lf 5 _ rfl, q.2.2.1, q.2.2.2, h.ge, h.lt⟩
theorem T4.cells (h : T4 Wb nb nc g6 xs ys n20 n27 v20 v27 r d k s W) : W.cell? ⟨g6, 0, none⟩ = some v20 ∧ W.cell? ⟨g6, 1, none⟩ = some v27 ∧ W.cell? ⟨g6, 2, none⟩ = some (.int .i64 r) ∧ W.cell? ⟨g6, 3, none⟩ = some (.int .i64 d) ∧ W.cell? ⟨g6, 4, none⟩ = some (.int .i64 k) ∧ W.cell? ⟨g6, 5, none⟩ = some (.int .i64 s) :=
  ⟨blk_cell h.lf 0, blk_cell h.lf 1, blk_cell h.lf 2, blk_cell h.lf 3, blk_cell h.lf 4, blk_cell h.lf 5⟩
theorem T4.thaw (h : T4 Wb nb nc g6 xs ys n20 n27 v20 v27 r d k s W) (j : Nat) : W.frozen? ⟨g6, j, none⟩ = false := blk_frozen h.lf j
theorem R4.t4 {path : List ByteArray} {nm : ByteArray} {steps : List Int} {rp r d : Int} {v16 v19 v20 v23 v26 v27 v32 v6 : Value} (h : R4 Wb path nm steps rp (.int .i64 r) (.int .i64 d) 6 true true true v16 v19 v20 v23 v26 v27 v32 v6 W) (hn : Wb.heap[nb]? = some (.cells nc 62 (0, 0))) :
    ∃ g6, v6 = .pointer (some ⟨g6, 0, none⟩) ∧ T4 Wb nb nc g6 (encs Value.string path ++ [.string nm]) (encs (Value.int .i64) steps ++ [.int .i64 rp]) (path.length + 1) (steps.length + 1) v20 v27 r d 0 0 W := by
  obtain ⟨g, h1, h2, h3⟩ := h.q6 rfl
  rw [if_pos rfl] at h3
  exact ⟨g, h1, h.below, blk_below hn h.below, h3, h.q20 (by omega), h.q27 (by omega), h2, blk_lt hn⟩
end
abbrev lvMark (D : Nat) : Deferred := { target := .collected D, args := #[] }
theorem marks_leave {F : Fence} {n : Nat} {P : Program} {fn : Func} {tmps : Array Value} {R : Ending → World → Prop} (B : Nat) (G : World → Prop) (hG : ∀ (W : World) (D : Nat), B ≤ D → W.heap[D]? = some (.deferred (some [])) → G W → G (W.putObj D (.deferred none))) (hend : ∀ W, G W → LeavesIn F n P fn tmps R [] .returning W) :
    ∀ (Ds : List Nat) (W : World), Ds.Nodup → (∀ D ∈ Ds, B ≤ D ∧ W.heap[D]? = some (.deferred (some []))) → G W → LeavesInM F n P fn tmps R (Ds.map lvMark) .returning W
  | [], W, _, _, h => hend W h
  | D :: Ds, W, hnd, hm, h => by
    obtain ⟨hD, hnd'⟩ := List.nodup_cons.1 hnd
    obtain ⟨h1, h2⟩ := hm D (List.mem_cons_self)
    refine ⟨by simp, .inl ⟨D, _, rfl, run_takeDeferred h2, marks_leave B G hG hend Ds _ hnd' (fun E hE => ?_) (hG W D h1 h2 h)⟩⟩
    obtain ⟨h3, h4⟩ := hm E (List.mem_cons_of_mem _ hE)
    exact ⟨h3, (World.putObj_heap_other (by rintro rfl; exact hD hE)).trans h4⟩
theorem T4.lvAt {Wb W : World} {nb g6 g20 g27 cap20 cap27 : Nat} {nc : Array Value} {path : List ByteArray} {nm : ByteArray} {steps : List Int} {rp r d k s : Int}
    (h : T4 Wb nb nc g6 (encs Value.string path ++ [.string nm]) (encs (Value.int .i64) steps ++ [.int .i64 rp]) (path.length + 1) (steps.length + 1) (.slice (some ⟨g20, 0, none⟩) (path.length + 1) cap20) (.slice (some ⟨g27, 0, none⟩) (steps.length + 1) cap27) r d k s W) {base : Nat} (hb : base ≤ Wb.heap.size) :
    LvAt base ⟨path ++ [nm], steps ++ [rp], r, d, ⟨k, s⟩⟩ ⟨g20, path.length + 1, cap20, g27, steps.length + 1, cap27, r, d, k, s⟩ W := by
  obtain ⟨a1, a2, e1, a3, a4, a5, a6⟩ := row_at h.o20
  obtain ⟨c1, c2, e2, c3, c4, c5, c6⟩ := row_at h.o27
  simp only [Value.slice.injEq, Option.some.injEq, Addr.mk.injEq, and_true, true_and] at e1 e2
  obtain ⟨rfl, rfl⟩ := e1
  obtain ⟨rfl, rfl⟩ := e2
  exact ⟨rfl, rfl, rfl, rfl, by simp, by simp, a4, c4, a5, c5, Nat.le_trans hb a3, Nat.le_trans hb c3, by
    obtain ⟨cur, e1, e2, e3⟩ := a6
    exact ⟨cur, e1, by rw [List.map_append]; exact e2, e3⟩, by
    obtain ⟨cur, e1, e2, e3⟩ := c6
    exact ⟨cur, e1, by rw [List.map_append]; exact e2, e3⟩⟩
theorem RoundIn.anyDL_ {F : Fence} (hd : F.depth = none) {m m' : Nat} {P : Program} {l : Nat} {f : FuncId} {tmps : Array Value} {assign body : Code} {w : World} {R : Ending → World → Prop}
    (h : RoundIn F m P l f tmps assign body w R) : RoundIn F m' P l f tmps assign body w R := ⟨h.1, fun c cs _ => h.2 c cs (fun d h => by rw [hd] at h; cases h)⟩
theorem YieldAt.anyDL_ {F : Fence} (hd : F.depth = none) {m : Nat} (m' : Nat) {P : Program} {l : Nat} {args : Array Value} {W : World} {R : Ending → World → Prop} (h : YieldAt F m P l args W R) : YieldAt F m' P l args W R := by
  obtain ⟨fn, tmps, assign, body, hy, hR⟩ := h
  exact ⟨fn, tmps, assign, body, hy, RoundIn.anyDL_ hd hR⟩
theorem RoundIn.inRoundL_ {F : Fence} {m : Nat} {P : Program} {l : Nat} {f : FuncId} {tmps : Array Value} {assign body : Code} {w : World} {R : Ending → World → Prop} (l' : Nat) (h : RoundIn F m P l f tmps assign body w R) : RoundIn (F.inRound l') m P l f tmps assign body w R := h
theorem T4.rds {wr Wb W W6 : World} {nb g6 NB : Nat} {nc : Array Value} {path : List ByteArray} {nm : ByteArray} {steps : List Int} {rp r d k s : Int} {v20 v27 : Value}
    (h : T4 Wb nb nc g6 (encs Value.string path ++ [.string nm]) (encs (Value.int .i64) steps ++ [.int .i64 rp]) (path.length + 1) (steps.length + 1) v20 v27 r d k s W) (hR : RowIn NB wr) (hB : Below W.heap.size W W6) (hBr : Below wr.heap.size wr W6) (hle : wr.heap.size ≤ Wb.heap.size) :
    RdS 9 NB v20 (encs Value.string (path ++ [nm])) W6 ∧ RdS 40 NB v27 (encs (Value.int .i64) (steps ++ [rp])) W6 := by
  have o20 := h.o20.kept (grown_of_below hB none) (by cases v20.ownBlock <;> simp)
  have o27 := h.o27.kept (grown_of_below hB none) (by cases v27.ownBlock <;> simp)
  have e20 : encs Value.string (path ++ [nm]) = encs Value.string path ++ [.string nm] := by simp [encs]
  have e27 : encs (Value.int .i64) (steps ++ [rp]) = encs (Value.int .i64) steps ++ [.int .i64 rp] := by simp [encs]
  rw [e20, e27]
  exact ⟨⟨own_weaken (by rw [o20.1, Nat.mul_one]; exact o20) (Nat.zero_le _), fun k hk => Free_.fresh hR hBr (Nat.le_trans hle (own_base o20 k hk))⟩, own_weaken (by rw [o27.1, Nat.mul_one]; exact o27) (Nat.zero_le _), fun k hk => Free_.fresh hR hBr (Nat.le_trans hle (own_base o27 k hk))⟩
/-- What the walk does at lists that are no greater. -/
def LvSeq (N : Nat) : Prop := ∀ (l0 : List S62) (path : List ByteArray) (steps : List Int) (r d : Int), numNs l0 < N → 0 ≤ r → 0 ≤ d → r + numNs l0 ≤ 1000000 → d + numNs l0 ≤ 1000000 → path.length + numNs l0 ≤ 1000000 → steps.length + numNs l0 ≤ 1000000 →
  ∀ (n n₀ NB base : Nat) (w0 w : World) (A : Option Addr) (c b1 b2 : Nat) (v0 v1 kk ss : Value), Kd.C k62 w0 A l0.length l0 → Below w0.heap.size w0 w → w0.heap.size ≤ n₀ → n₀ ≤ w.heap.size → base ≤ w.heap.size → RowIn NB w →
    w.heap[b1]? = some (.cells #[.slice A l0.length c] 22 (0, 0)) → Free_ NB w b1 → w.heap[b2]? = some (.cells #[v0, v1, .int .i64 r, .int .i64 d, kk, ss] 52 (0, 0)) → Free_ NB w b2 →
    RdS 9 NB v0 (encs Value.string path) w → RdS 40 NB v1 (encs (Value.int .i64) steps) w →
    SeqR Fence.wide n Tryd.prog 59 #[.pointer (some ⟨b1, 0, none⟩), .pointer (some ⟨b2, 0, none⟩)] (fun x : LV => #[.agg x.arr]) (KeepC n₀ NB) (RdL base (leavesL l0 path steps r d)) (fun ys => ys.length = (leavesL l0 path steps r d).length) (fun _ => True) (leavesL l0 path steps r d).length w
/-- How the walk stands ahead of a round, or behind the last. -/
structure LvI (l : Nat) (l0 : List S62) (path : List ByteArray) (steps : List Int) (r d : Int) (n₀ NB : Nat) (J : List LV → World → Prop) (W0 W1 : World) (i : Nat) (ys : List LV) (Ds : List Nat) (W : World) : Prop where
  hi : i ≤ l0.length
  len : ys.length = (leavesL (l0.take i) path steps r d).length
  j : J ys W
  kc : KeepC n₀ NB W1 W
  lt : AllLt ys W.heap.size
  nd : Ds.Nodup
  mks : ∀ D ∈ Ds, W0.heap.size ≤ D ∧ W.heap[D]? = some (.deferred (some []))
section
variable {l : Nat} {l0 : List S62} {path : List ByteArray} {steps : List Int} {r d : Int} {n₀ NB : Nat} {J : List LV → World → Prop} {W0 W1 : World} {i : Nat} {ys : List LV} {Ds : List Nat} {wr wf W5 : World}
theorem LvI.next (h : LvI l l0 path steps r d n₀ NB J W0 W1 i ys Ds wr) (hlt : i < l0.length) {M : List S52} (hnx : leavesL (l0.take (i + 1)) path steps r d = leavesL (l0.take i) path steps r d ++ M) (hn : n₀ ≤ wr.heap.size) (hB : Below wr.heap.size wr wf) (xs : List LV) (hxs : xs.length = M.length)
    (hj : J (ys ++ xs) W5) (hk : KeepC n₀ NB wf W5) (hAll : AllLt (ys ++ xs) W5.heap.size) (Es : List Nat) (hnd : Es.Nodup) (hm : ∀ D ∈ Es, W0.heap.size ≤ D ∧ W5.heap[D]? = some (.deferred (some []))) : LvI l l0 path steps r d n₀ NB J W0 W1 (i + 1) (ys ++ xs) Es W5 :=
  ⟨hlt, by rw [hnx, List.length_append, List.length_append, h.len, hxs], hj, h.kc.trans ((KeepC.of_below hn hB).trans hk), hAll, hnd, hm⟩
theorem LvI.marks (h : LvI l l0 path steps r d n₀ NB J W0 W1 i ys Ds wr) (hB : Below wr.heap.size wr wf) (hf : KeepsFrom W0.heap.size wf W5) : ∀ D ∈ Ds, W0.heap.size ≤ D ∧ W5.heap[D]? = some (.deferred (some [])) := fun D hD =>
  have h1 := h.mks D hD
  ⟨h1.1, hf.same D _ h1.1 (blk_below h1.2 hB) rfl⟩
end
set_option maxRecDepth 100000 in
set_option maxHeartbeats 8000000 in
theorem lv_step {N : Nat} (ih : LvSeq N) : LvSeq (N + 1) := by
  intro l0 path steps r d hN hr0 hd0 hrN hdN hpN hsN n n₀ NB base w0 w A c b1 b2 v0 v1 kk ss hC hB hn0 hn hbase hRow hb1 hf1 hb2 hf2 hP hS l J Jx W hWB hJ hJx hY h0
  refine callsIn_wide.2 ((callsIn_wide (n := 9)).1 ?_)
  -- all of it in the world where the walk begins
  have hW := hWB.size
  replace hB := hB.trans (hWB.mono hB.size)
  replace hn := Nat.le_trans hn hW
  replace hbase := Nat.le_trans hbase hW
  replace hf1 := hf1.below (blk_lt hb1) hWB
  replace hf2 := hf2.below (blk_lt hb2) hWB
  replace hb1 := blk_below hb1 hWB
  replace hb2 := blk_below hb2 hWB
  replace hP := hP.below hWB
  replace hS := hS.below hWB
  replace hRow := hRow.below hWB
  clear hWB hW w
  have hmax := Kd.C_max hC
  -- the box of the round's function
  have hBa : Below W.heap.size W (W.alloc (.cells #[.func (.yield l) #[] #[]] 90)) := below_alloc (Below.refl _ _) _
  have hb3 := blk_new W (.cells #[.func (.yield l) #[] #[]] 90)
  have hf3 := Free_.fresh hRow hBa (Nat.le_refl _)
  have hJ1 := hJ _ _ _ none h0 (grown_of_below hBa none) (by simp)
  have hsz := World.size_alloc W (.cells #[.func (.yield l) #[] #[]] 90)
  have hc1 := blk_cell (blk_below hb1 hBa) 0
  have hI0 : LvI l l0 path steps r d n₀ NB J W (W.alloc (.cells #[.func (.yield l) #[] #[]] 90)) 0 [] [] (W.alloc (.cells #[.func (.yield l) #[] #[]] 90)) := ⟨Nat.zero_le _, by simp [leavesL_nil], hJ1, KeepC.refl _ _ _, fun y hy => (nomatch hy), List.nodup_nil, fun D hD => (nomatch hD)⟩
  refine callsIn_of_wp_marks Tryd.func59 rfl trivial ?_ rfl
  simp only [Tryd.ntmps59, List.size_toArray, List.length_cons, List.length_nil, Nat.reduceAdd, Nat.reduceSub, Array.replicate_succ, Array.replicate_zero, List.push_toArray, List.append_toArray, List.nil_append, List.cons_append]
  gi_wp2
  refine wpIn_loop (fun a wr => ∃ (i : Nat) (ys : List LV) (Ds : List Nat) (u5 u6 u11 u12 u13 u14 u15 u16 u17 u18 u19 u20 u21 u22 u23 u24 u25 u26 u27 u28 u29 u30 u31 u32 u33 u34 u35 u36 u37 u38 u39 u40 u41 u42 u43 u44 u45 u46 u47 u48 u49 u50 u51 u52 u53 u54 u55 u56 u57 u58 u59 u60 u61 u62 u63 u69 : Value), a = { tmps := #[.func (.yield l) #[] #[], .pointer (some ⟨b1, 0, none⟩), .pointer (some ⟨b2, 0, none⟩), .pointer (some ⟨W.heap.size, 0, none⟩), undef, u5, u6, undef, .slice A l0.length c, .int .i64 l0.length, .int .i64 (i : Int), u11, u12, u13, u14, u15, u16, u17, u18, u19, u20, u21, u22, u23, u24, u25, u26, u27, u28, u29, u30, u31, u32, u33, u34, u35, u36, u37, u38, u39, u40, u41, u42, u43, u44, u45, u46, u47, u48, u49, u50, u51, u52, u53, u54, u55, u56, u57, u58, u59, u60, u61, u62, u63, undef, undef, undef, undef, undef, u69], defers := Ds.map lvMark } ∧ LvI l l0 path steps r d n₀ NB J W (W.alloc (.cells #[.func (.yield l) #[] #[]] 90)) i ys Ds wr) (fun a _ => l0.length - (intOf (a.tmps.getD 10 undef)).toNat) ?_ ?_
  · exact ⟨0, [], [], undef, undef, undef, undef, undef, undef, undef, undef, undef, undef, undef, undef, undef, undef, undef, undef, undef, undef, undef, undef, undef, undef, undef, undef, undef, undef, undef, undef, undef, undef, undef, undef, undef, undef, undef, undef, undef, undef, undef, undef, undef, undef, undef, undef, undef, undef, undef, undef, undef, undef, undef, undef, undef, undef, undef, undef, rfl, hI0⟩
  intro _ wr hinv
  obtain ⟨i, ys, Ds, u5, u6, u11, u12, u13, u14, u15, u16, u17, u18, u19, u20, u21, u22, u23, u24, u25, u26, u27, u28, u29, u30, u31, u32, u33, u34, u35, u36, u37, u38, u39, u40, u41, u42, u43, u44, u45, u46, u47, u48, u49, u50, u51, u52, u53, u54, u55, u56, u57, u58, u59, u60, u61, u62, u63, u69, rfl, hI⟩ := hinv
  generalize W.alloc (.cells #[.func (.yield l) #[] #[]] 90) = W1 at *
  try dsimp only
  by_cases hlt : i < l0.length
  · have hBW1 : Below w0.heap.size w0 W1 := hB.trans (hBa.mono hB.size)
    have hBr : Below w0.heap.size w0 wr := hBW1.trans (hI.kc.below.mono hn0)
    have hwk : IntKind.i64.wrap ((i : Int) + 1) = ((i + 1 : Nat) : Int) := by rw [IntKind.wrap_i64]; omega
    obtain ⟨ad, P, q, e0, hx0, hx1, hx2, hx3, hx4, hx5, ml, mc⟩ := at_T62 hC (i : Int) (by omega) (by omega)
    cases e0
    have ex : rd_T62 l0 (i : Int) = l0[i] := by unfold rd_T62; simp [List.getD, hlt]
    simp only [Int.toNat_natCast, ex] at hx0 hx1 hx2 hx3 hx4 hx5 ml mc
    replace hx0 := (hBr.cell (World.block_lt_of_cell? w0 _ hx0)).trans hx0
    replace hx1 := (hBr.cell (World.block_lt_of_cell? w0 _ hx1)).trans hx1
    replace hx2 := (hBr.cell (World.block_lt_of_cell? w0 _ hx2)).trans hx2
    replace hx3 := (hBr.cell (World.block_lt_of_cell? w0 _ hx3)).trans hx3
    replace hx4 := (hBr.cell (World.block_lt_of_cell? w0 _ hx4)).trans hx4
    replace hx5 := (hBr.cell (World.block_lt_of_cell? w0 _ hx5)).trans hx5
    clear ex
    have HNX := Lib.hid (leavesL_next l0 i hlt path steps r d)
    have HAT := Lib.hid (leavesL_at l0 i hlt path steps r d)
    have HNM := Lib.hid (numNs_at l0 i hlt)
    generalize l0[i] = x at *
    have HC := Lib.hid hC
    have HI := Lib.hid hI
    have HY := Lib.hid hY
    have HMC := Lib.hid mc
    have HML := Lib.hid ml
    have HN_ := Lib.hid (And.intro hN (And.intro hr0 (And.intro hd0 (And.intro hrN (And.intro hdN (And.intro hpN hsN))))))
    clear hC hI hY mc ml hN hr0 hd0 hrN hdN hpN hsN hI0
    have hKW : KeepC n₀ NB W wr := (KeepC.of_below hn hBa).trans HI.out.kc
    have hRwr : RowIn NB wr := hRow.next hKW
    obtain ⟨A0, c0, e0, hc0, hC0⟩ := Kd.R_reads (Kd.R_of_own (h1 := fun _ => rfl) (ok := fun _ => True) (xs := path) (enc := Value.string) (by have := (hP.next hKW).own; rwa [encs_length] at this) (fun _ _ => trivial))
    obtain ⟨A1, c1, e1, hc1_, hC1⟩ := Kd.R_reads (Kd.R_of_own (h1 := fun _ => rfl) (ok := fun _ => True) (xs := steps) (enc := Value.int .i64) (by have := (hS.next hKW).own; rwa [encs_length] at this) (fun _ _ => trivial))
    subst e0
    subst e1
    have hb2r := hKW.cells _ _ hb2 rfl hf2
    have hBn : Below wr.heap.size wr (wr.alloc (.cells #[.string x.f0, .int .i64 x.f1, .bool x.f2, .int .i64 x.f3, .int .i64 x.f4, .slice P x.f5.length q] 62)) := below_alloc (Below.refl _ _) _
    have hnb := blk_new wr (.cells #[.string x.f0, .int .i64 x.f1, .bool x.f2, .int .i64 x.f3, .int .i64 x.f4, .slice P x.f5.length q] 62)
    have hlen4 := HN_.out
    have HSm : ∀ W', Below (wr.alloc (.cells #[.string x.f0, .int .i64 x.f1, .bool x.f2, .int .i64 x.f3, .int .i64 x.f4, .slice P x.f5.length q] 62)).heap.size (wr.alloc (.cells #[.string x.f0, .int .i64 x.f1, .bool x.f2, .int .i64 x.f3, .int .i64 x.f4, .slice P x.f5.length q] 62)) W' → (W'.cell? ⟨b2, 0, none⟩ = some (.slice A0 path.length c0) ∧ W'.cell? ⟨b2, 1, none⟩ = some (.slice A1 steps.length c1) ∧ W'.cell? ⟨b2, 2, none⟩ = some (.int .i64 r) ∧ W'.cell? ⟨b2, 3, none⟩ = some (.int .i64 d) ∧ W'.cell? ⟨wr.heap.size, 0, none⟩ = some (.string x.f0) ∧ W'.cell? ⟨wr.heap.size, 1, none⟩ = some (.int .i64 x.f1)) := fun W' hb =>
      have h2 := blk_below (blk_below hb2r hBn) hb
      have h3 := blk_below hnb hb
      ⟨blk_cell h2 0, blk_cell h2 1, blk_cell h2 2, blk_cell h2 3, blk_cell h3 0, blk_cell h3 1⟩
    gi_wp2
    refine wpIn_calm (wpIn_wide.2 ?_)
    clear hx0 hx1 hx2 hx3 hx4 hx5 hb1 hc1
    have hC0' := Kd.C_below hC0 hBn
    have hC1' := Kd.C_below hC1 hBn
    have hb3b := blk_below (HI.out.kc.cells _ _ hb3 rfl hf3) hBn
    have hwle := hBn.size
    have hbase' : base ≤ wr.heap.size := Nat.le_trans hbase (Nat.le_trans hBa.size HI.out.kc.size)
    have hn' : n₀ ≤ wr.heap.size := Nat.le_trans hn (Nat.le_trans hBa.size HI.out.kc.size)
    have hszn := World.size_alloc wr (.cells #[.string x.f0, .int .i64 x.f1, .bool x.f2, .int .i64 x.f3, .int .i64 x.f4, .slice P x.f5.length q] 62)
    generalize wr.alloc (.cells #[.string x.f0, .int .i64 x.f1, .bool x.f2, .int .i64 x.f3, .int .i64 x.f4, .slice P x.f5.length q] 62) = Wb at *
    refine wp_region_held_drew (S := fun W' => (W'.cell? ⟨b2, 0, none⟩ = some (.slice A0 path.length c0) ∧ W'.cell? ⟨b2, 1, none⟩ = some (.slice A1 steps.length c1) ∧ W'.cell? ⟨b2, 2, none⟩ = some (.int .i64 r) ∧ W'.cell? ⟨b2, 3, none⟩ = some (.int .i64 d) ∧ W'.cell? ⟨wr.heap.size, 0, none⟩ = some (.string x.f0) ∧ W'.cell? ⟨wr.heap.size, 1, none⟩ = some (.int .i64 x.f1))) rfl (HSm _ (Below.refl _ _).drew) (fun hHeld => ?_)
    refine tkL_ 0 (some 14) rfl rfl (v := ?a0) ?b0 ?c0
    case b0 => (intro W' hSw; (try dsimp only at hSw); go_simp; first | done | with_reducible rfl)
    simp only [Act.put, List.setIfInBounds_toArray, List.set_cons_zero, List.set_cons_succ]
    refine tkL_ 1 (some 15) rfl rfl (v := ?a1) ?b1 ?c1
    case b1 => (intro W' hSw; (try dsimp only at hSw); go_simp; first | done | with_reducible rfl)
    simp only [Act.put, List.setIfInBounds_toArray, List.set_cons_zero, List.set_cons_succ]
    refine tkL_ 3 (some 17) rfl rfl (v := ?a2) ?b2 ?c2
    case b2 => (intro W' hSw; (try dsimp only at hSw); go_simp; first | done | with_reducible rfl)
    simp only [Act.put, List.setIfInBounds_toArray, List.set_cons_zero, List.set_cons_succ]
    refine tkL_ 4 (some 18) rfl rfl (v := ?a3) ?b3 ?c3
    case b3 => (intro W' hSw; (try dsimp only at hSw); go_simp; first | done | with_reducible rfl)
    simp only [Act.put, List.setIfInBounds_toArray, List.set_cons_zero, List.set_cons_succ]
    refine tkL_ 7 (some 21) rfl rfl (v := ?a4) ?b4 ?c4
    case b4 => (intro W' hSw; (try dsimp only at hSw); go_simp; first | done | with_reducible rfl)
    simp only [Act.put, List.setIfInBounds_toArray, List.set_cons_zero, List.set_cons_succ]
    refine tkL_ 8 (some 22) rfl rfl (v := ?a5) ?b5 ?c5
    case b5 => (intro W' hSw; (try dsimp only at hSw); go_simp; first | done | with_reducible rfl)
    simp only [Act.put, List.setIfInBounds_toArray, List.set_cons_zero, List.set_cons_succ]
    refine tkL_ 10 (some 24) rfl rfl (v := ?a6) ?b6 ?c6
    case b6 => (intro W' hSw; (try dsimp only at hSw); go_simp; first | done | with_reducible rfl)
    simp only [Act.put, List.setIfInBounds_toArray, List.set_cons_zero, List.set_cons_succ]
    refine tkL_ 11 (some 25) rfl rfl (v := ?a7) ?b7 ?c7
    case b7 => (intro W' hSw; (try dsimp only at hSw); go_simp; first | done | with_reducible rfl)
    simp only [Act.put, List.setIfInBounds_toArray, List.set_cons_zero, List.set_cons_succ]
    refine tkL_ 14 (some 28) rfl rfl (v := ?a8) ?b8 ?c8
    case b8 => (intro W' hSw; (try dsimp only at hSw); go_simp; first | done | with_reducible rfl)
    simp only [Act.put, List.setIfInBounds_toArray, List.set_cons_zero, List.set_cons_succ]
    refine tkL_ 15 (some 29) rfl rfl (v := ?a9) ?b9 ?c9
    case b9 => (intro W' hSw; (try dsimp only at hSw); go_simp; first | done | with_reducible rfl)
    simp only [Act.put, List.setIfInBounds_toArray, List.set_cons_zero, List.set_cons_succ]
    refine tkL_ 16 (some 30) rfl rfl (v := ?a10) ?b10 ?c10
    case b10 => (intro W' hSw; (try dsimp only at hSw); go_simp; first | done | with_reducible rfl)
    simp only [Act.put, List.setIfInBounds_toArray, List.set_cons_zero, List.set_cons_succ]
    refine tkL_ 17 (some 31) rfl rfl (v := ?a11) ?b11 ?c11
    case b11 => (intro W' hSw; (try dsimp only at hSw); go_simp; first | done | with_reducible rfl)
    simp only [Act.put, List.setIfInBounds_toArray, List.set_cons_zero, List.set_cons_succ]
    show wpAnyH _ .any _ _ _ 9 (latL 0 false false false) _ _
    have hR0 : R4 Wb path x.f0 steps x.f1 (.int .i64 r) (.int .i64 d) 0 false false false u16 u19 u20 u23 u26 u27 u32 u6 Wb.drew := ⟨(Below.refl _ _).drew, fun e => (nomatch e), fun e => (nomatch e), fun e => by omega, fun e => (nomatch e), fun e => (nomatch e), fun e => by omega, fun e => by omega, fun e => (nomatch e)⟩
    refine lattice_ (fun p b5 b12 b19 a W' => ∃ v16 v19 v20 v23 v26 v27 v32 v6, a = { tmps := #[.func (.yield l) #[] #[], .pointer (some ⟨b1, 0, none⟩), .pointer (some ⟨b2, 0, none⟩), .pointer (some ⟨W.heap.size, 0, none⟩), undef, .pointer (some ⟨wr.heap.size, 0, none⟩), v6, undef, .slice (some ad) l0.length c, .int .i64 l0.length, .int .i64 (i : Int), .bool true, .pointer (some (ad.add (i * 6))), .agg #[.string x.f0, .int .i64 x.f1, .bool x.f2, .int .i64 x.f3, .int .i64 x.f4, .slice P x.f5.length q], .pointer (some ⟨b2, 0, none⟩), .slice A0 path.length c0, v16, .pointer (some ⟨wr.heap.size, 0, none⟩), .string x.f0, v19, v20, .pointer (some ⟨b2, 1, none⟩), .slice A1 steps.length c1, v23, .pointer (some ⟨wr.heap.size, 1, none⟩), .int .i64 x.f1, v26, v27, .pointer (some ⟨b2, 2, none⟩), .int .i64 r, .pointer (some ⟨b2, 3, none⟩), .int .i64 d, v32, u33, u34, u35, u36, u37, u38, u39, u40, u41, u42, u43, u44, u45, u46, u47, u48, u49, u50, u51, u52, u53, u54, u55, u56, u57, u58, u59, u60, u61, u62, u63, undef, undef, undef, undef, undef, u69], defers := Ds.map lvMark } ∧ R4 Wb path x.f0 steps x.f1 (.int .i64 r) (.int .i64 d) p b5 b12 b19 v16 v19 v20 v23 v26 v27 v32 v6 W') (by kernel_rfl) (fun p b5 b12 b19 a W' h => ?hS) ?h2 ?h6 ?h9 ?h13 ?h18 ?h20 ?h5 ?h12 ?h19 ?hend 9 0 false false false _ _ rfl (by decide) ⟨u16, u19, u20, u23, u26, u27, u32, u6, rfl, hR0⟩
    case hS =>
      obtain ⟨v16, v19, v20, v23, v26, v27, v32, v6, rfl, hR⟩ := h
      exact HSm _ hR.below
    case h2 =>
      refine fun b5 b12 b19 => ⟨_, at_dropL rfl, ?_⟩
      rintro _ W' ⟨v16, v19, v20, v23, v26, v27, v32, v6, rfl, hR⟩ KC hKC
      go_simp
      refine (clone_strs A0 c0 path W' (Kd.C_below hC0' hR.below) hc0 (by omega)).mono ?_
      rintro e w2 ⟨v, rfl, hv, hbv⟩
      refine hKC.out _ _ ⟨v, v19, v20, v23, v26, v27, v32, v6, ?_, hR.e2 hbv (Kd.own_of_R hv)⟩
      rfl
    case h9 =>
      refine fun b12 b19 => ⟨_, at_dropL rfl, ?_⟩
      rintro _ W' ⟨v16, v19, v20, v23, v26, v27, v32, v6, rfl, hR⟩ KC hKC
      go_simp
      refine (clone_reps A1 c1 steps W' (Kd.C_below hC1' hR.below) hc1_ (by omega)).mono ?_
      rintro e w2 ⟨v, rfl, hv, hbv⟩
      refine hKC.out _ _ ⟨v16, v19, v20, v, v26, v27, v32, v6, ?_, hR.e9 hbv (Kd.own_of_R hv)⟩
      rfl
    case h6 =>
      refine fun b12 b19 => ⟨_, at_dropL rfl, ?_⟩
      rintro _ W' ⟨v16, v19, v20, v23, v26, v27, v32, v6, rfl, hR⟩ KC hKC
      obtain ⟨i0, hi, hz0, hz1, hz2⟩ := info_parts info_str1_
      obtain ⟨g, rfl, hg⟩ := hR.q19 rfl (by decide)
      refine apOp_ W' rfl _ _ 44 rfl Wb.heap.size 9 i0 _ 16 Tryd.underlying44 hi hz0 hz1 hz2 rfl v16 path.length (encs Value.string path) rfl (hR.q16 rfl) g (.string x.f0) rfl hg rfl (by simp only [maxLen]; omega) (by omega) hR.below.size ?_
      intro v w2 ho hg2
      refine hKC.out _ _ ⟨v16, _, v, v23, v26, v27, v32, v6, ?_, hR.e6 hg2 ho⟩
      rfl
    case h13 =>
      refine fun b19 => ⟨_, at_dropL rfl, ?_⟩
      rintro _ W' ⟨v16, v19, v20, v23, v26, v27, v32, v6, rfl, hR⟩ KC hKC
      obtain ⟨i0, hi, hz0, hz1, hz2⟩ := info_parts info_rep1_
      obtain ⟨g, rfl, hg⟩ := hR.q26 rfl (by decide)
      refine apOp_ W' rfl _ _ 48 rfl Wb.heap.size 40 i0 _ 8 Tryd.underlying48 hi hz0 hz1 hz2 rfl v23 steps.length (encs (Value.int .i64) steps) rfl (hR.q23 rfl) g (.int .i64 x.f1) rfl hg rfl (by simp only [maxLen]; omega) (by omega) hR.below.size ?_
      intro v w2 ho hg2
      refine hKC.out _ _ ⟨v16, v19, v20, v23, _, v, v32, v6, ?_, hR.e13 hg2 ho⟩
      rfl
    case h18 =>
      refine fun b19 => ⟨_, at_dropL rfl, ?_⟩
      rintro _ W' ⟨v16, v19, v20, v23, v26, v27, v32, v6, rfl, hR⟩ KC hKC
      have hE := Lib.hid hR.e18
      obtain ⟨g20, cap20, rfl, -⟩ := row_at (hR.q20 (by decide))
      obtain ⟨g27, cap27, rfl, -⟩ := row_at (hR.q27 (by decide))
      go_simp
      refine hKC.out _ _ ⟨v16, v19, _, v23, v26, _, _, v6, ?_, hE.out⟩
      rfl
    case h20 =>
      refine ⟨_, at_dropL rfl, ?_⟩
      rintro _ W' ⟨v16, v19, v20, v23, v26, v27, v32, v6, rfl, hR⟩ KC hKC
      obtain ⟨g6, rfl, hg1, hg2⟩ := hR.q6 rfl
      rw [if_neg (by decide)] at hg2
      have hE := Lib.hid (hR.e20 rfl)
      obtain rfl := hR.q32 (by decide)
      obtain ⟨g20, cap20, rfl, -⟩ := row_at (hR.q20 (by decide))
      obtain ⟨g27, cap27, rfl, -⟩ := row_at (hR.q27 (by decide))
      have hk0 := blk_cell hg2 0
      have hk1 := blk_cell hg2 1
      have hk2 := blk_cell hg2 2
      have hk3 := blk_cell hg2 3
      have hk4 := blk_cell hg2 4
      have hk5 := blk_cell hg2 5
      have hz0 := blk_frozen hg2 0
      have hz1 := blk_frozen hg2 1
      have hz2 := blk_frozen hg2 2
      have hz3 := blk_frozen hg2 3
      have hz4 := blk_frozen hg2 4
      have hz5 := blk_frozen hg2 5
      go_simp
      refine hKC.out _ _ ⟨v16, v19, _, v23, v26, _, _, _, ?_, hE.out⟩
      rfl
    case h5 =>
      refine fun p b12 b19 => ⟨_, at_dropL rfl, ?_⟩
      rintro _ W' ⟨v16, v19, v20, v23, v26, v27, v32, v6, rfl, hR⟩ KC hKC
      go_simp
      refine hKC.out _ _ ⟨v16, _, v20, v23, v26, v27, v32, v6, ?_, hR.e5⟩
      rfl
    case h12 =>
      refine fun p b5 b19 => ⟨_, at_dropL rfl, ?_⟩
      rintro _ W' ⟨v16, v19, v20, v23, v26, v27, v32, v6, rfl, hR⟩ KC hKC
      go_simp
      refine hKC.out _ _ ⟨v16, v19, v20, v23, _, v27, v32, v6, ?_, hR.e12⟩
      rfl
    case h19 =>
      refine fun p b5 b12 hp6 => ⟨_, at_dropL rfl, ?_⟩
      rintro _ W' ⟨v16, v19, v20, v23, v26, v27, v32, v6, rfl, hR⟩ KC hKC
      go_simp
      refine hKC.out _ _ ⟨v16, v19, v20, v23, v26, v27, v32, _, ?_, hR.e19 hp6⟩
      rfl
    case hend =>
      rintro _ W' ⟨v16, v19, v20, v23, v26, v27, v32, v6, rfl, hR⟩
      obtain ⟨g6, rfl, hT⟩ := hR.t4 hnb
      obtain ⟨g20, cap20, rfl, -⟩ := row_at hT.o20
      obtain ⟨g27, cap27, rfl, -⟩ := row_at hT.o27
      clear hR hHeld HSm hR0 hC0 hC1 hC0' hC1' hc0 hc1_ hlen4
      dsimp only
      have hnd := hT.nd
      have hn1 := blk_cell hnd 1
      have hn2 := blk_cell hnd 2
      have hn3 := blk_cell hnd 3
      have hn4 := blk_cell hnd 4
      have hn5 := blk_cell hnd 5
      by_cases h2 : x.f1 = 2
      · have h0 : ¬ x.f1 = 0 := by omega
        have hb2_ : decide (x.f1 = 2) = true := decide_eq_true h2
        have hb0_ : decide (x.f1 = 0) = false := decide_eq_false h0
        have hwr : IntKind.i64.wrap (r + 1) = r + 1 := by rw [IntKind.wrap_i64]; have := HN_.out; omega
        have hTa := hT.set2 (r + 1)
        have hg2_ := hT.cells.2.2.1
        have hz2_ := hT.thaw 2
        generalize hWa : W'.setCell ⟨g6, 2, none⟩ (.int .i64 (r + 1)) = Wa at hTa
        have hna1 := blk_cell hTa.nd 1
        have hna2 := blk_cell hTa.nd 2
        have hna3 := blk_cell hTa.nd 3
        have hna4 := blk_cell hTa.nd 4
        have hna5 := blk_cell hTa.nd 5
        have hwd : IntKind.i64.wrap (d + 1) = d + 1 := by rw [IntKind.wrap_i64]; have := HN_.out; omega
        have hTb := hTa.set3 (d + 1)
        have hg3_ := hTa.cells.2.2.2.1
        have hz3_ := hTa.thaw 3
        generalize hWd : (Wa.setCell ⟨g6, 3, none⟩ (.int .i64 (d + 1))) = Wd at hTb
        have hnb1 := blk_cell hTb.nd 1
        have hnb2 := blk_cell hTb.nd 2
        have hnb3 := blk_cell hTb.nd 3
        have hnb4 := blk_cell hTb.nd 4
        have hnb5 := blk_cell hTb.nd 5
        by_cases hg : x.f2 = true
        · obtain ⟨hc60, hc61, hc62, hc63, hc64, hc65⟩ := hTb.cells
          have hleaf : leavesN x path steps r d = leavesL x.f5 (path ++ [x.f0]) (steps ++ [x.f1]) (r + 1) (d + 1) := by unfold leavesN; rw [if_pos hg]; simp [h2, h0]
          have hBd := below_step hBn hTb.below
          have hal1 := below_alloc (Below.refl Wd.heap.size Wd) (.cells #[.slice P x.f5.length q] 22)
          have hal2 := below_alloc hal1 (.cells #[.slice (some ⟨g20, 0, none⟩) (path.length + 1) cap20, .slice (some ⟨g27, 0, none⟩) (steps.length + 1) cap27, .int .i64 (r + 1), .int .i64 (d + 1), .int .i64 0, .int .i64 0] 52)
          have hBr6 := below_step hBd hal2
          have hbx1 : ((Wd.alloc (.cells #[.slice P x.f5.length q] 22)).alloc (.cells #[.slice (some ⟨g20, 0, none⟩) (path.length + 1) cap20, .slice (some ⟨g27, 0, none⟩) (steps.length + 1) cap27, .int .i64 (r + 1), .int .i64 (d + 1), .int .i64 0, .int .i64 0] 52)).heap[Wd.heap.size]? = some (.cells #[.slice P x.f5.length q] 22) := blk_alloc (blk_new Wd _) _
          have hbx2 : ((Wd.alloc (.cells #[.slice P x.f5.length q] 22)).alloc (.cells #[.slice (some ⟨g20, 0, none⟩) (path.length + 1) cap20, .slice (some ⟨g27, 0, none⟩) (steps.length + 1) cap27, .int .i64 (r + 1), .int .i64 (d + 1), .int .i64 0, .int .i64 0] 52)).heap[Wd.heap.size + 1]? = some (.cells #[.slice (some ⟨g20, 0, none⟩) (path.length + 1) cap20, .slice (some ⟨g27, 0, none⟩) (steps.length + 1) cap27, .int .i64 (r + 1), .int .i64 (d + 1), .int .i64 0, .int .i64 0] 52) := by have := blk_new (Wd.alloc (.cells #[.slice P x.f5.length q] 22)) (.cells #[.slice (some ⟨g20, 0, none⟩) (path.length + 1) cap20, .slice (some ⟨g27, 0, none⟩) (steps.length + 1) cap27, .int .i64 (r + 1), .int .i64 (d + 1), .int .i64 0, .int .i64 0] 52); rwa [World.size_alloc] at this
          have hfr1 : Free_ NB _ Wd.heap.size := Free_.fresh hRwr hBr6 hBd.size
          have hfr2 : Free_ NB _ (Wd.heap.size + 1) := Free_.fresh hRwr hBr6 (Nat.le_trans hBd.size (Nat.le_succ _))
          have hrds := hTb.rds hRwr hal2 hBr6 hwle
          have hRow6 := hRwr.below hBr6
          have hb36 := blk_below (blk_below hb3b hTb.below) hal2
          have hf36 : Free_ NB _ W.heap.size := (hf3.next (blk_lt hb3) HI.out.kc).below (blk_lt (HI.out.kc.cells _ _ hb3 rfl hf3)) hBr6
          have hJ6 := hJ _ _ _ none HI.out.j (grown_of_below hBr6 none) (by simp)
          have hsz6 := hBr6.size
          have hn6 : n₀ ≤ _ := Nat.le_trans hn' hsz6
          have hW6 : W.heap.size ≤ _ := Nat.le_trans (Nat.le_trans hBa.size HI.out.kc.size) hsz6
          have hm6 : ∀ E ∈ Ds, W.heap.size ≤ E ∧ ((Wd.alloc (.cells #[.slice P x.f5.length q] 22)).alloc (.cells #[.slice (some ⟨g20, 0, none⟩) (path.length + 1) cap20, .slice (some ⟨g27, 0, none⟩) (steps.length + 1) cap27, .int .i64 (r + 1), .int .i64 (d + 1), .int .i64 0, .int .i64 0] 52)).heap[E]? = some (.deferred (some [])) := fun E hE => ⟨(HI.out.mks E hE).1, blk_below (HI.out.mks E hE).2 hBr6⟩
          have hl6 := HI.out.lt.mono hsz6
          have hseq := ih x.f5 (path ++ [x.f0]) (steps ++ [x.f1]) (r + 1) (d + 1) (by have := HN_.out; have := HNM.out; omega) (by have := HN_.out; omega) (by have := HN_.out; omega) (by have := HN_.out; have := HNM.out; omega) (by have := HN_.out; have := HNM.out; omega) (by have := HN_.out; have := HNM.out; simp only [List.length_append, List.length_singleton]; omega) (by have := HN_.out; have := HNM.out; simp only [List.length_append, List.length_singleton]; omega)
            8 n₀ NB _ w0 _ P q _ _ _ _ _ _ HMC.out (hBr.trans (hBr6.mono hBr.size)) hn0 hn6 (Nat.le_refl _) hRow6 hbx1 hfr1 hbx2 hfr2 hrds.1 hrds.2
          clear hal1 hbx1 hbx2 hfr1 hfr2 hrds hRow6
          generalize hW6e : (Wd.alloc (.cells #[.slice P x.f5.length q] 22)).alloc (.cells #[.slice (some ⟨g20, 0, none⟩) (path.length + 1) cap20, .slice (some ⟨g27, 0, none⟩) (steps.length + 1) cap27, .int .i64 (r + 1), .int .i64 (d + 1), .int .i64 0, .int .i64 0] 52) = W6 at *
          gi_wp2
          refine ⟨trivial, (leaves_in 8 P x.f5.length q _ _ _ _ _ _ Wd).mono ?_⟩
          rintro e w6 ⟨rfl, rfl⟩
          rw [hW6e]
          clear hW6e
          have HJ6 := Lib.hid hJ6
          gi_wp2
          refine wpIn_range_ownRA rfl (by omega) (gf := 59) (lb := #[.pointer (some ⟨Wd.heap.size, 0, none⟩), .pointer (some ⟨Wd.heap.size + 1, 0, none⟩)]) rfl trivial (enters_of Tryd.func59 (by kernel_rfl) rfl)
            hseq ?rd ?rda (fun Wx o h => (KeepC.refl _ _ Wx).alloc (Nat.le_trans hn6 h) o) (fun xv => .cells xv.arr 52) (fun h k => KeepC.trans h k) (fun Wx lx o o' hl ho hc _ => KeepC.putObj o' (Nat.le_trans hn6 hl) ho hc) (Below.refl _ _) (fun _ => rfl)
            (fun pre Wx => J (ys ++ pre) Wx ∧ KeepC n₀ NB W6 Wx ∧ AllLt (ys ++ pre) Wx.heap.size ∧ ∀ E ∈ Ds, Wx.heap[E]? = some (.deferred (some [])))
            (fun c pre Wx => c = .ret ∧ Jx (ys ++ pre) Wx ∧ ∀ E ∈ Ds, Wx.heap[E]? = some (.deferred (some []))) ?own ?ownx ?h0 (fun (xv : LV) b => { tmps := #[.func (.yield l) #[] #[], .pointer (some ⟨b1, 0, none⟩), .pointer (some ⟨b2, 0, none⟩), .pointer (some ⟨W.heap.size, 0, none⟩), undef, .pointer (some ⟨wr.heap.size, 0, none⟩), .pointer (some ⟨g6, 0, none⟩), .pointer (some ⟨b, 0, none⟩), .slice (some ad) l0.length c, .int .i64 l0.length, .int .i64 (i : Int), .bool true, .pointer (some (ad.add (i * 6))), .agg #[.string x.f0, .int .i64 2, .bool true, .int .i64 x.f3, .int .i64 x.f4, .slice P x.f5.length q], .pointer (some ⟨b2, 0, none⟩), .slice A0 path.length c0, v16, .pointer (some ⟨wr.heap.size, 0, none⟩), .string x.f0, v19, .slice (some ⟨g20, 0, none⟩) (path.length + 1) cap20, .pointer (some ⟨b2, 1, none⟩), .slice A1 steps.length c1, v23, .pointer (some ⟨wr.heap.size, 1, none⟩), .int .i64 2, v26, .slice (some ⟨g27, 0, none⟩) (steps.length + 1) cap27, .pointer (some ⟨b2, 2, none⟩), .int .i64 r, .pointer (some ⟨b2, 3, none⟩), .int .i64 d, v32, .pointer (some ⟨wr.heap.size, 1, none⟩), .int .i64 2, .bool true, .pointer (some ⟨g6, 2, none⟩), .int .i64 r, .int .i64 (r + 1), .pointer (some ⟨g6, 2, none⟩), .pointer (some ⟨wr.heap.size, 1, none⟩), .int .i64 2, .bool true, .pointer (some ⟨g6, 3, none⟩), .int .i64 d, .int .i64 (d + 1), .pointer (some ⟨g6, 3, none⟩), .pointer (some ⟨wr.heap.size, 2, none⟩), .bool true, .bool false, u50, u51, u52, u53, u54, u55, u56, u57, u58, u59, .pointer (some ⟨wr.heap.size, 5, none⟩), .slice P x.f5.length q, (.agg #[.slice (some ⟨g20, 0, none⟩) (path.length + 1) cap20, .slice (some ⟨g27, 0, none⟩) (steps.length + 1) cap27, .int .i64 (r + 1), .int .i64 (d + 1), .int .i64 0, .int .i64 0]), .func (.func 59) #[] #[.pointer (some ⟨Wd.heap.size, 0, none⟩), .pointer (some ⟨Wd.heap.size + 1, 0, none⟩)], .agg xv.arr, undef, undef, undef, undef, u69], defers := [] }) ?assign ?body ?done ?stop
          case rd =>
            intro i7 x7 Wx l7 o o' hl hx ho hc
            exact hx.kept (grownBy_putObj' Wx l7 o') (fun g e => by cases e; exact ⟨o, ho, fun cs fr => ⟨fun e => by rw [e] at hc; simp [Obj.isCells] at hc, fun e => by rw [e] at hc; simp [Obj.isCells] at hc⟩⟩)
          case rda =>
            intro i7 x7 Wx o hx
            exact hx.kept (World.grownBy_alloc Wx o none) (fun g e => by cases e)
          case own =>
            rintro s A7 B7 row ⟨h1, h2, h3, h4⟩ hgr hr
            exact ⟨hJ _ _ _ row h1 hgr (fun g e => ⟨Nat.le_trans hW6 (hr g e).1, (hr g e).2⟩), h2.grown hn6 hgr (fun g e => ⟨Nat.le_trans hn6 (hr g e).1, (hr g e).2⟩), h3.mono hgr.size, fun E hE => (hgr.block E (blk_lt (h4 E hE)) (fun e => by have := (hr E e.symm).1; have := blk_lt (hm6 E hE).2; omega)).trans (h4 E hE)⟩
          case ownx =>
            rintro c7 s A7 B7 row ⟨h1, h2, h4⟩ hgr hr
            exact ⟨h1, hJx _ _ _ row h2 hgr (fun g e => ⟨Nat.le_trans hW6 (hr g e).1, (hr g e).2⟩), fun E hE => (hgr.block E (blk_lt (h4 E hE)) (fun e => by have := (hr E e.symm).1; have := blk_lt (hm6 E hE).2; omega)).trans (h4 E hE)⟩
          case h0 => exact ⟨by simpa using HJ6.out, KeepC.refl _ _ _, by simpa using hl6, fun E hE => (hm6 E hE).2⟩
          case assign =>
            intro l7 xv W7 K7 hK7
            gi_wp2
            first | exact hK7 | simpa using hK7
          case body =>
            rintro l7 pre xv b W7 hob ⟨hJ7, hk7, hl7, hm7⟩ hlen7 hrd
            have hO := hrd.outer (L := leavesL l0 path steps r d) (by rw [HAT.out, hleaf]) HI.out.len (Nat.le_trans hbase' hsz6) hl6
            have hc0 := blk_cell hob 0
            have hc1 := blk_cell hob 1
            have hc2 := blk_cell hob 2
            have hc3 := blk_cell hob 3
            have hc4 := blk_cell hob 4
            have hc5 := blk_cell hob 5
            have hcy := blk_cell (hk7.cells _ _ hb36 rfl hf36) 0
            obtain ⟨fn, tmps, assign, body, hy, hR1⟩ := YieldAt.anyDL_ rfl 6 (HY.out (ys ++ pre) xv W7 hJ7 hO.1.1 hO)
            dsimp only [LV.arr] at hy
            have HA7 := Lib.hid (hl7.snoc hO.1.2 (Nat.le_refl _))
            have HK7 := Lib.hid hk7
            have HM7 := Lib.hid hm7
            clear hlen7 hrd hO hJ7 hk7 hl7 hm7 hseq
            gi_wp2
            refine (RoundIn.inRoundL_ l7 hR1).mono ?_
            rintro e W8 (⟨rfl, hJ8, hk8, hf8⟩ | ⟨rfl, hJ8, hf8⟩)
            · have hP8 := Lib.hid (show KeepsFrom W6.heap.size W7 W8 ∧ KeepC n₀ NB W7 W8 ∧ J (ys ++ (pre ++ [xv])) W8 ∧ KeepC n₀ NB W6 W8 ∧ AllLt (ys ++ (pre ++ [xv])) W8.heap.size ∧ ∀ E ∈ Ds, W8.heap[E]? = some (.deferred (some [])) from ⟨keepsFrom_lift hf8 hW6, hk8, by rw [← List.append_assoc]; exact hJ8, HK7.out.trans hk8, by rw [← List.append_assoc]; exact HA7.out.mono hf8.size, fun E hE => hf8.same E _ (hm6 E hE).1 (HM7.out E hE) rfl⟩)
              gi_wp2
              exact hP8.out
            · have hP8 := Lib.hid (show KeepsFrom W6.heap.size W7 W8 ∧ Code.ret = Code.ret ∧ Jx (ys ++ (pre ++ [xv])) W8 ∧ ∀ E ∈ Ds, W8.heap[E]? = some (.deferred (some [])) from ⟨keepsFrom_lift hf8 hW6, rfl, by rw [← List.append_assoc]; exact hJ8, fun E hE => hf8.same E _ (hm6 E hE).1 (HM7.out E hE) rfl⟩)
              gi_wp2
              exact ⟨hP8.out.1, rfl, hP8.out.2.2⟩
          case done =>
            rintro E xs W9 hE hxs ⟨hJ9, hk9, hl9, hm9⟩ hK9
            have hE9 := Lib.hid (HI.out.next hlt (by rw [HNX.out, hleaf]) hn' hBr6 xs hxs hJ9 hk9 hl9 (E :: Ds) (List.nodup_cons.2 ⟨fun h => by have := blk_lt (hm6 E h).2; omega, HI.out.nd⟩) (fun E' hE' => by
              rcases List.mem_cons.1 hE' with rfl | hE'
              · exact ⟨Nat.le_trans hW6 hE, hK9⟩
              · exact ⟨(hm6 E' hE').1, hm9 E' hE'⟩))
            clear hseq hJ9 hk9 hl9 hm9 hK9
            gi_wp2
            refine ⟨⟨i + 1, ys ++ xs, E :: Ds, _, _, _, _, _, _, _, _, _, _, _, _, _, _, _, _, _, _, _, _, _, _, _, _, _, _, _, _, _, _, _, _, _, _, _, _, _, _, _, _, _, _, _, _, _, _, _, _, _, _, _, _, _, _, _, _, rfl, hE9.out⟩, ?_⟩
            simp [intOf]
            omega
          case stop =>
            rintro E c7 pre W9 hE _ ⟨rfl, hJ9, hm9⟩ hK9
            clear hseq
            gi_wp2
            refine marks_leave W.heap.size (fun W7 => Jx (ys ++ pre) W7) (fun W7 D hD hh hj => hJx.putObj _ hj hD hh rfl) (fun W7 hj => ⟨_, results_none rfl _ _ _, ⟨_, rfl⟩, .inr ⟨_, trivial, hj⟩⟩) (E :: Ds) W9 (List.nodup_cons.2 ⟨fun h => by have := blk_lt (hm6 E h).2; omega, HI.out.nd⟩) (fun E' hE' => by
              rcases List.mem_cons.1 hE' with rfl | hE'
              · exact ⟨Nat.le_trans hW6 hE, hK9⟩
              · exact ⟨(hm6 E' hE').1, hm9 E' hE'⟩) hJ9
        · have hk4_ := hTb.thaw 4
          have hk5_ := hTb.thaw 5
          have hx4_ := hTb.cells.2.2.2.2.1
          have hx5_ := hTb.cells.2.2.2.2.2
          have hTc := (hTb.set4 x.f3).set5 x.f4
          have hz5_ := (hTb.set4 x.f3).thaw 5
          have hy5_ := (hTb.set4 x.f3).cells.2.2.2.2.2
          generalize hWe : Wd.setCell ⟨g6, 4, none⟩ (.int .i64 x.f3) = We at hTc hz5_ hy5_
          generalize hWf : We.setCell ⟨g6, 5, none⟩ (.int .i64 x.f4) = Wf at hTc
          have hc3 := blk_cell (blk_below hb3b hTc.below) 0
          obtain ⟨hc60, hc61, hc62, hc63, hc64, hc65⟩ := hTc.cells
          have hBf := below_step hBn hTc.below
          have hleaf : leavesN x path steps r d = [(⟨path ++ [x.f0], steps ++ [x.f1], r + 1, d + 1, ⟨x.f3, x.f4⟩⟩ : S52)] := by unfold leavesN; simp [h2, h0, hg]
          have hlv := hTc.lvAt hwle
          have hRd : RdL base (leavesL l0 path steps r d) ys (⟨g20, path.length + 1, cap20, g27, steps.length + 1, cap27, r + 1, d + 1, x.f3, x.f4⟩ : LV) Wf := by
            have := RdL.outer (L := leavesL l0 path steps r d) (M := [(⟨path ++ [x.f0], steps ++ [x.f1], r + 1, d + 1, ⟨x.f3, x.f4⟩⟩ : S52)]) (pre := []) (n := wr.heap.size) (x := (⟨g20, path.length + 1, cap20, g27, steps.length + 1, cap27, r + 1, d + 1, x.f3, x.f4⟩ : LV)) (W := Wf) ⟨⟨by simp, hlv⟩, fun y hy => (nomatch hy)⟩ (by rw [HAT.out, hleaf]) HI.out.len hbase' HI.out.lt
            simpa using this
          have hAll := HI.out.lt.snoc hlv hBf.size
          have hJf := hJ _ _ _ none HI.out.j (grown_of_below hBf none) (by simp)
          obtain ⟨fn, tmps, assign, body, hy, hR1⟩ := YieldAt.anyDL_ rfl 8 (HY.out ys _ Wf hJf hRd.1.1 hRd)
          dsimp only [LV.arr] at hy
          have HE := Lib.hid (fun W5 (hj : J (ys ++ [(⟨g20, path.length + 1, cap20, g27, steps.length + 1, cap27, r + 1, d + 1, x.f3, x.f4⟩ : LV)]) W5) (hk : KeepC n₀ NB Wf W5) (hf : KeepsFrom W.heap.size Wf W5) => HI.out.next hlt (by rw [HNX.out, hleaf]) hn' hBf [(⟨g20, path.length + 1, cap20, g27, steps.length + 1, cap27, r + 1, d + 1, x.f3, x.f4⟩ : LV)] rfl hj hk (hAll.mono hf.size) Ds HI.out.nd (HI.out.marks hBf hf))
          have HMK := Lib.hid (fun W5 (hf : KeepsFrom W.heap.size Wf W5) => HI.out.marks hBf hf)
          have HND := Lib.hid HI.out.nd
          clear hlv hRd hleaf hAll hJf hBf
          gi_wp2
          refine hR1.mono ?_
          rintro e W5 (⟨rfl, hJ5, hk5, hf5⟩ | ⟨rfl, hJ5, hf5⟩)
          · have hE5 := Lib.hid (HE.out W5 hJ5 hk5 hf5)
            gi_wp2
            refine ⟨⟨i + 1, ys ++ [(⟨g20, path.length + 1, cap20, g27, steps.length + 1, cap27, r + 1, d + 1, x.f3, x.f4⟩ : LV)], Ds, _, _, _, _, _, _, _, _, _, _, _, _, _, _, _, _, _, _, _, _, _, _, _, _, _, _, _, _, _, _, _, _, _, _, _, _, _, _, _, _, _, _, _, _, _, _, _, _, _, _, _, _, _, _, _, _, rfl, hE5.out⟩, ?_⟩
            simp [intOf]
            omega
          · have hM5 := Lib.hid (HMK.out W5 hf5)
            gi_wp2
            refine marks_leave W.heap.size (fun W7 => Jx (ys ++ [(⟨g20, path.length + 1, cap20, g27, steps.length + 1, cap27, r + 1, d + 1, x.f3, x.f4⟩ : LV)]) W7) (fun W7 D hD hh hj => hJx.putObj _ hj hD hh rfl) (fun W7 hj => ⟨_, results_none rfl _ _ _, ⟨_, rfl⟩, .inr ⟨_, trivial, hj⟩⟩) Ds W5 HND.out hM5.out hJ5
      · by_cases h0 : x.f1 = 0
        · skip
          have hb2_ : decide (x.f1 = 2) = false := decide_eq_false h2
          have hb0_ : decide (x.f1 = 0) = true := decide_eq_true h0
          by_cases hg : x.f2 = true
          · obtain ⟨hc60, hc61, hc62, hc63, hc64, hc65⟩ := hT.cells
            have hleaf : leavesN x path steps r d = leavesL x.f5 (path ++ [x.f0]) (steps ++ [x.f1]) (r) (d) := by unfold leavesN; rw [if_pos hg]; simp [h2, h0]
            have hBd := below_step hBn hT.below
            have hal1 := below_alloc (Below.refl W'.heap.size W') (.cells #[.slice P x.f5.length q] 22)
            have hal2 := below_alloc hal1 (.cells #[.slice (some ⟨g20, 0, none⟩) (path.length + 1) cap20, .slice (some ⟨g27, 0, none⟩) (steps.length + 1) cap27, .int .i64 (r), .int .i64 (d), .int .i64 0, .int .i64 0] 52)
            have hBr6 := below_step hBd hal2
            have hbx1 : ((W'.alloc (.cells #[.slice P x.f5.length q] 22)).alloc (.cells #[.slice (some ⟨g20, 0, none⟩) (path.length + 1) cap20, .slice (some ⟨g27, 0, none⟩) (steps.length + 1) cap27, .int .i64 (r), .int .i64 (d), .int .i64 0, .int .i64 0] 52)).heap[W'.heap.size]? = some (.cells #[.slice P x.f5.length q] 22) := blk_alloc (blk_new W' _) _
            have hbx2 : ((W'.alloc (.cells #[.slice P x.f5.length q] 22)).alloc (.cells #[.slice (some ⟨g20, 0, none⟩) (path.length + 1) cap20, .slice (some ⟨g27, 0, none⟩) (steps.length + 1) cap27, .int .i64 (r), .int .i64 (d), .int .i64 0, .int .i64 0] 52)).heap[W'.heap.size + 1]? = some (.cells #[.slice (some ⟨g20, 0, none⟩) (path.length + 1) cap20, .slice (some ⟨g27, 0, none⟩) (steps.length + 1) cap27, .int .i64 (r), .int .i64 (d), .int .i64 0, .int .i64 0] 52) := by have := blk_new (W'.alloc (.cells #[.slice P x.f5.length q] 22)) (.cells #[.slice (some ⟨g20, 0, none⟩) (path.length + 1) cap20, .slice (some ⟨g27, 0, none⟩) (steps.length + 1) cap27, .int .i64 (r), .int .i64 (d), .int .i64 0, .int .i64 0] 52); rwa [World.size_alloc] at this
            have hfr1 : Free_ NB _ W'.heap.size := Free_.fresh hRwr hBr6 hBd.size
            have hfr2 : Free_ NB _ (W'.heap.size + 1) := Free_.fresh hRwr hBr6 (Nat.le_trans hBd.size (Nat.le_succ _))
            have hrds := hT.rds hRwr hal2 hBr6 hwle
            have hRow6 := hRwr.below hBr6
            have hb36 := blk_below (blk_below hb3b hT.below) hal2
            have hf36 : Free_ NB _ W.heap.size := (hf3.next (blk_lt hb3) HI.out.kc).below (blk_lt (HI.out.kc.cells _ _ hb3 rfl hf3)) hBr6
            have hJ6 := hJ _ _ _ none HI.out.j (grown_of_below hBr6 none) (by simp)
            have hsz6 := hBr6.size
            have hn6 : n₀ ≤ _ := Nat.le_trans hn' hsz6
            have hW6 : W.heap.size ≤ _ := Nat.le_trans (Nat.le_trans hBa.size HI.out.kc.size) hsz6
            have hm6 : ∀ E ∈ Ds, W.heap.size ≤ E ∧ ((W'.alloc (.cells #[.slice P x.f5.length q] 22)).alloc (.cells #[.slice (some ⟨g20, 0, none⟩) (path.length + 1) cap20, .slice (some ⟨g27, 0, none⟩) (steps.length + 1) cap27, .int .i64 (r), .int .i64 (d), .int .i64 0, .int .i64 0] 52)).heap[E]? = some (.deferred (some [])) := fun E hE => ⟨(HI.out.mks E hE).1, blk_below (HI.out.mks E hE).2 hBr6⟩
            have hl6 := HI.out.lt.mono hsz6
            have hseq := ih x.f5 (path ++ [x.f0]) (steps ++ [x.f1]) (r) (d) (by have := HN_.out; have := HNM.out; omega) (by have := HN_.out; omega) (by have := HN_.out; omega) (by have := HN_.out; have := HNM.out; omega) (by have := HN_.out; have := HNM.out; omega) (by have := HN_.out; have := HNM.out; simp only [List.length_append, List.length_singleton]; omega) (by have := HN_.out; have := HNM.out; simp only [List.length_append, List.length_singleton]; omega)
              8 n₀ NB _ w0 _ P q _ _ _ _ _ _ HMC.out (hBr.trans (hBr6.mono hBr.size)) hn0 hn6 (Nat.le_refl _) hRow6 hbx1 hfr1 hbx2 hfr2 hrds.1 hrds.2
            clear hal1 hbx1 hbx2 hfr1 hfr2 hrds hRow6
            generalize hW6e : (W'.alloc (.cells #[.slice P x.f5.length q] 22)).alloc (.cells #[.slice (some ⟨g20, 0, none⟩) (path.length + 1) cap20, .slice (some ⟨g27, 0, none⟩) (steps.length + 1) cap27, .int .i64 (r), .int .i64 (d), .int .i64 0, .int .i64 0] 52) = W6 at *
            gi_wp2
            refine ⟨trivial, (leaves_in 8 P x.f5.length q _ _ _ _ _ _ W').mono ?_⟩
            rintro e w6 ⟨rfl, rfl⟩
            rw [hW6e]
            clear hW6e
            have HJ6 := Lib.hid hJ6
            gi_wp2
            refine wpIn_range_ownRA rfl (by omega) (gf := 59) (lb := #[.pointer (some ⟨W'.heap.size, 0, none⟩), .pointer (some ⟨W'.heap.size + 1, 0, none⟩)]) rfl trivial (enters_of Tryd.func59 (by kernel_rfl) rfl)
              hseq ?rd ?rda (fun Wx o h => (KeepC.refl _ _ Wx).alloc (Nat.le_trans hn6 h) o) (fun xv => .cells xv.arr 52) (fun h k => KeepC.trans h k) (fun Wx lx o o' hl ho hc _ => KeepC.putObj o' (Nat.le_trans hn6 hl) ho hc) (Below.refl _ _) (fun _ => rfl)
              (fun pre Wx => J (ys ++ pre) Wx ∧ KeepC n₀ NB W6 Wx ∧ AllLt (ys ++ pre) Wx.heap.size ∧ ∀ E ∈ Ds, Wx.heap[E]? = some (.deferred (some [])))
              (fun c pre Wx => c = .ret ∧ Jx (ys ++ pre) Wx ∧ ∀ E ∈ Ds, Wx.heap[E]? = some (.deferred (some []))) ?own ?ownx ?h0 (fun (xv : LV) b => { tmps := #[.func (.yield l) #[] #[], .pointer (some ⟨b1, 0, none⟩), .pointer (some ⟨b2, 0, none⟩), .pointer (some ⟨W.heap.size, 0, none⟩), undef, .pointer (some ⟨wr.heap.size, 0, none⟩), .pointer (some ⟨g6, 0, none⟩), .pointer (some ⟨b, 0, none⟩), .slice (some ad) l0.length c, .int .i64 l0.length, .int .i64 (i : Int), .bool true, .pointer (some (ad.add (i * 6))), .agg #[.string x.f0, .int .i64 0, .bool true, .int .i64 x.f3, .int .i64 x.f4, .slice P x.f5.length q], .pointer (some ⟨b2, 0, none⟩), .slice A0 path.length c0, v16, .pointer (some ⟨wr.heap.size, 0, none⟩), .string x.f0, v19, .slice (some ⟨g20, 0, none⟩) (path.length + 1) cap20, .pointer (some ⟨b2, 1, none⟩), .slice A1 steps.length c1, v23, .pointer (some ⟨wr.heap.size, 1, none⟩), .int .i64 0, v26, .slice (some ⟨g27, 0, none⟩) (steps.length + 1) cap27, .pointer (some ⟨b2, 2, none⟩), .int .i64 r, .pointer (some ⟨b2, 3, none⟩), .int .i64 d, v32, .pointer (some ⟨wr.heap.size, 1, none⟩), .int .i64 0, .bool false, u36, u37, u38, u39, .pointer (some ⟨wr.heap.size, 1, none⟩), .int .i64 0, .bool false, u43, u44, u45, u46, .pointer (some ⟨wr.heap.size, 2, none⟩), .bool true, .bool false, u50, u51, u52, u53, u54, u55, u56, u57, u58, u59, .pointer (some ⟨wr.heap.size, 5, none⟩), .slice P x.f5.length q, (.agg #[.slice (some ⟨g20, 0, none⟩) (path.length + 1) cap20, .slice (some ⟨g27, 0, none⟩) (steps.length + 1) cap27, .int .i64 (r), .int .i64 (d), .int .i64 0, .int .i64 0]), .func (.func 59) #[] #[.pointer (some ⟨W'.heap.size, 0, none⟩), .pointer (some ⟨W'.heap.size + 1, 0, none⟩)], .agg xv.arr, undef, undef, undef, undef, u69], defers := [] }) ?assign ?body ?done ?stop
            case rd =>
              intro i7 x7 Wx l7 o o' hl hx ho hc
              exact hx.kept (grownBy_putObj' Wx l7 o') (fun g e => by cases e; exact ⟨o, ho, fun cs fr => ⟨fun e => by rw [e] at hc; simp [Obj.isCells] at hc, fun e => by rw [e] at hc; simp [Obj.isCells] at hc⟩⟩)
            case rda =>
              intro i7 x7 Wx o hx
              exact hx.kept (World.grownBy_alloc Wx o none) (fun g e => by cases e)
            case own =>
              rintro s A7 B7 row ⟨h1, h2, h3, h4⟩ hgr hr
              exact ⟨hJ _ _ _ row h1 hgr (fun g e => ⟨Nat.le_trans hW6 (hr g e).1, (hr g e).2⟩), h2.grown hn6 hgr (fun g e => ⟨Nat.le_trans hn6 (hr g e).1, (hr g e).2⟩), h3.mono hgr.size, fun E hE => (hgr.block E (blk_lt (h4 E hE)) (fun e => by have := (hr E e.symm).1; have := blk_lt (hm6 E hE).2; omega)).trans (h4 E hE)⟩
            case ownx =>
              rintro c7 s A7 B7 row ⟨h1, h2, h4⟩ hgr hr
              exact ⟨h1, hJx _ _ _ row h2 hgr (fun g e => ⟨Nat.le_trans hW6 (hr g e).1, (hr g e).2⟩), fun E hE => (hgr.block E (blk_lt (h4 E hE)) (fun e => by have := (hr E e.symm).1; have := blk_lt (hm6 E hE).2; omega)).trans (h4 E hE)⟩
            case h0 => exact ⟨by simpa using HJ6.out, KeepC.refl _ _ _, by simpa using hl6, fun E hE => (hm6 E hE).2⟩
            case assign =>
              intro l7 xv W7 K7 hK7
              gi_wp2
              first | exact hK7 | simpa using hK7
            case body =>
              rintro l7 pre xv b W7 hob ⟨hJ7, hk7, hl7, hm7⟩ hlen7 hrd
              have hO := hrd.outer (L := leavesL l0 path steps r d) (by rw [HAT.out, hleaf]) HI.out.len (Nat.le_trans hbase' hsz6) hl6
              have hc0 := blk_cell hob 0
              have hc1 := blk_cell hob 1
              have hc2 := blk_cell hob 2
              have hc3 := blk_cell hob 3
              have hc4 := blk_cell hob 4
              have hc5 := blk_cell hob 5
              have hcy := blk_cell (hk7.cells _ _ hb36 rfl hf36) 0
              obtain ⟨fn, tmps, assign, body, hy, hR1⟩ := YieldAt.anyDL_ rfl 6 (HY.out (ys ++ pre) xv W7 hJ7 hO.1.1 hO)
              dsimp only [LV.arr] at hy
              have HA7 := Lib.hid (hl7.snoc hO.1.2 (Nat.le_refl _))
              have HK7 := Lib.hid hk7
              have HM7 := Lib.hid hm7
              clear hlen7 hrd hO hJ7 hk7 hl7 hm7 hseq
              gi_wp2
              refine (RoundIn.inRoundL_ l7 hR1).mono ?_
              rintro e W8 (⟨rfl, hJ8, hk8, hf8⟩ | ⟨rfl, hJ8, hf8⟩)
              · have hP8 := Lib.hid (show KeepsFrom W6.heap.size W7 W8 ∧ KeepC n₀ NB W7 W8 ∧ J (ys ++ (pre ++ [xv])) W8 ∧ KeepC n₀ NB W6 W8 ∧ AllLt (ys ++ (pre ++ [xv])) W8.heap.size ∧ ∀ E ∈ Ds, W8.heap[E]? = some (.deferred (some [])) from ⟨keepsFrom_lift hf8 hW6, hk8, by rw [← List.append_assoc]; exact hJ8, HK7.out.trans hk8, by rw [← List.append_assoc]; exact HA7.out.mono hf8.size, fun E hE => hf8.same E _ (hm6 E hE).1 (HM7.out E hE) rfl⟩)
                gi_wp2
                exact hP8.out
              · have hP8 := Lib.hid (show KeepsFrom W6.heap.size W7 W8 ∧ Code.ret = Code.ret ∧ Jx (ys ++ (pre ++ [xv])) W8 ∧ ∀ E ∈ Ds, W8.heap[E]? = some (.deferred (some [])) from ⟨keepsFrom_lift hf8 hW6, rfl, by rw [← List.append_assoc]; exact hJ8, fun E hE => hf8.same E _ (hm6 E hE).1 (HM7.out E hE) rfl⟩)
                gi_wp2
                exact ⟨hP8.out.1, rfl, hP8.out.2.2⟩
            case done =>
              rintro E xs W9 hE hxs ⟨hJ9, hk9, hl9, hm9⟩ hK9
              have hE9 := Lib.hid (HI.out.next hlt (by rw [HNX.out, hleaf]) hn' hBr6 xs hxs hJ9 hk9 hl9 (E :: Ds) (List.nodup_cons.2 ⟨fun h => by have := blk_lt (hm6 E h).2; omega, HI.out.nd⟩) (fun E' hE' => by
                rcases List.mem_cons.1 hE' with rfl | hE'
                · exact ⟨Nat.le_trans hW6 hE, hK9⟩
                · exact ⟨(hm6 E' hE').1, hm9 E' hE'⟩))
              clear hseq hJ9 hk9 hl9 hm9 hK9
              gi_wp2
              refine ⟨⟨i + 1, ys ++ xs, E :: Ds, _, _, _, _, _, _, _, _, _, _, _, _, _, _, _, _, _, _, _, _, _, _, _, _, _, _, _, _, _, _, _, _, _, _, _, _, _, _, _, _, _, _, _, _, _, _, _, _, _, _, _, _, _, _, _, _, rfl, hE9.out⟩, ?_⟩
              simp [intOf]
              omega
            case stop =>
              rintro E c7 pre W9 hE _ ⟨rfl, hJ9, hm9⟩ hK9
              clear hseq
              gi_wp2
              refine marks_leave W.heap.size (fun W7 => Jx (ys ++ pre) W7) (fun W7 D hD hh hj => hJx.putObj _ hj hD hh rfl) (fun W7 hj => ⟨_, results_none rfl _ _ _, ⟨_, rfl⟩, .inr ⟨_, trivial, hj⟩⟩) (E :: Ds) W9 (List.nodup_cons.2 ⟨fun h => by have := blk_lt (hm6 E h).2; omega, HI.out.nd⟩) (fun E' hE' => by
                rcases List.mem_cons.1 hE' with rfl | hE'
                · exact ⟨Nat.le_trans hW6 hE, hK9⟩
                · exact ⟨(hm6 E' hE').1, hm9 E' hE'⟩) hJ9
          · have hk4_ := hT.thaw 4
            have hk5_ := hT.thaw 5
            have hx4_ := hT.cells.2.2.2.2.1
            have hx5_ := hT.cells.2.2.2.2.2
            have hTc := (hT.set4 x.f3).set5 x.f4
            have hz5_ := (hT.set4 x.f3).thaw 5
            have hy5_ := (hT.set4 x.f3).cells.2.2.2.2.2
            generalize hWe : W'.setCell ⟨g6, 4, none⟩ (.int .i64 x.f3) = We at hTc hz5_ hy5_
            generalize hWf : We.setCell ⟨g6, 5, none⟩ (.int .i64 x.f4) = Wf at hTc
            have hc3 := blk_cell (blk_below hb3b hTc.below) 0
            obtain ⟨hc60, hc61, hc62, hc63, hc64, hc65⟩ := hTc.cells
            have hBf := below_step hBn hTc.below
            have hleaf : leavesN x path steps r d = [(⟨path ++ [x.f0], steps ++ [x.f1], r, d, ⟨x.f3, x.f4⟩⟩ : S52)] := by unfold leavesN; simp [h2, h0, hg]
            have hlv := hTc.lvAt hwle
            have hRd : RdL base (leavesL l0 path steps r d) ys (⟨g20, path.length + 1, cap20, g27, steps.length + 1, cap27, r, d, x.f3, x.f4⟩ : LV) Wf := by
              have := RdL.outer (L := leavesL l0 path steps r d) (M := [(⟨path ++ [x.f0], steps ++ [x.f1], r, d, ⟨x.f3, x.f4⟩⟩ : S52)]) (pre := []) (n := wr.heap.size) (x := (⟨g20, path.length + 1, cap20, g27, steps.length + 1, cap27, r, d, x.f3, x.f4⟩ : LV)) (W := Wf) ⟨⟨by simp, hlv⟩, fun y hy => (nomatch hy)⟩ (by rw [HAT.out, hleaf]) HI.out.len hbase' HI.out.lt
              simpa using this
            have hAll := HI.out.lt.snoc hlv hBf.size
            have hJf := hJ _ _ _ none HI.out.j (grown_of_below hBf none) (by simp)
            obtain ⟨fn, tmps, assign, body, hy, hR1⟩ := YieldAt.anyDL_ rfl 8 (HY.out ys _ Wf hJf hRd.1.1 hRd)
            dsimp only [LV.arr] at hy
            have HE := Lib.hid (fun W5 (hj : J (ys ++ [(⟨g20, path.length + 1, cap20, g27, steps.length + 1, cap27, r, d, x.f3, x.f4⟩ : LV)]) W5) (hk : KeepC n₀ NB Wf W5) (hf : KeepsFrom W.heap.size Wf W5) => HI.out.next hlt (by rw [HNX.out, hleaf]) hn' hBf [(⟨g20, path.length + 1, cap20, g27, steps.length + 1, cap27, r, d, x.f3, x.f4⟩ : LV)] rfl hj hk (hAll.mono hf.size) Ds HI.out.nd (HI.out.marks hBf hf))
            have HMK := Lib.hid (fun W5 (hf : KeepsFrom W.heap.size Wf W5) => HI.out.marks hBf hf)
            have HND := Lib.hid HI.out.nd
            clear hlv hRd hleaf hAll hJf hBf
            gi_wp2
            refine hR1.mono ?_
            rintro e W5 (⟨rfl, hJ5, hk5, hf5⟩ | ⟨rfl, hJ5, hf5⟩)
            · have hE5 := Lib.hid (HE.out W5 hJ5 hk5 hf5)
              gi_wp2
              refine ⟨⟨i + 1, ys ++ [(⟨g20, path.length + 1, cap20, g27, steps.length + 1, cap27, r, d, x.f3, x.f4⟩ : LV)], Ds, _, _, _, _, _, _, _, _, _, _, _, _, _, _, _, _, _, _, _, _, _, _, _, _, _, _, _, _, _, _, _, _, _, _, _, _, _, _, _, _, _, _, _, _, _, _, _, _, _, _, _, _, _, _, _, _, rfl, hE5.out⟩, ?_⟩
              simp [intOf]
              omega
            · have hM5 := Lib.hid (HMK.out W5 hf5)
              gi_wp2
              refine marks_leave W.heap.size (fun W7 => Jx (ys ++ [(⟨g20, path.length + 1, cap20, g27, steps.length + 1, cap27, r, d, x.f3, x.f4⟩ : LV)]) W7) (fun W7 D hD hh hj => hJx.putObj _ hj hD hh rfl) (fun W7 hj => ⟨_, results_none rfl _ _ _, ⟨_, rfl⟩, .inr ⟨_, trivial, hj⟩⟩) Ds W5 HND.out hM5.out hJ5
        · skip
          have hb2_ : decide (x.f1 = 2) = false := decide_eq_false h2
          have hb0_ : decide (x.f1 = 0) = false := decide_eq_false h0
          have hwd : IntKind.i64.wrap (d + 1) = d + 1 := by rw [IntKind.wrap_i64]; have := HN_.out; omega
          have hTb := hT.set3 (d + 1)
          have hg3_ := hT.cells.2.2.2.1
          have hz3_ := hT.thaw 3
          generalize hWd : (W'.setCell ⟨g6, 3, none⟩ (.int .i64 (d + 1))) = Wd at hTb
          have hnb1 := blk_cell hTb.nd 1
          have hnb2 := blk_cell hTb.nd 2
          have hnb3 := blk_cell hTb.nd 3
          have hnb4 := blk_cell hTb.nd 4
          have hnb5 := blk_cell hTb.nd 5
          by_cases hg : x.f2 = true
          · obtain ⟨hc60, hc61, hc62, hc63, hc64, hc65⟩ := hTb.cells
            have hleaf : leavesN x path steps r d = leavesL x.f5 (path ++ [x.f0]) (steps ++ [x.f1]) (r) (d + 1) := by unfold leavesN; rw [if_pos hg]; simp [h2, h0]
            have hBd := below_step hBn hTb.below
            have hal1 := below_alloc (Below.refl Wd.heap.size Wd) (.cells #[.slice P x.f5.length q] 22)
            have hal2 := below_alloc hal1 (.cells #[.slice (some ⟨g20, 0, none⟩) (path.length + 1) cap20, .slice (some ⟨g27, 0, none⟩) (steps.length + 1) cap27, .int .i64 (r), .int .i64 (d + 1), .int .i64 0, .int .i64 0] 52)
            have hBr6 := below_step hBd hal2
            have hbx1 : ((Wd.alloc (.cells #[.slice P x.f5.length q] 22)).alloc (.cells #[.slice (some ⟨g20, 0, none⟩) (path.length + 1) cap20, .slice (some ⟨g27, 0, none⟩) (steps.length + 1) cap27, .int .i64 (r), .int .i64 (d + 1), .int .i64 0, .int .i64 0] 52)).heap[Wd.heap.size]? = some (.cells #[.slice P x.f5.length q] 22) := blk_alloc (blk_new Wd _) _
            have hbx2 : ((Wd.alloc (.cells #[.slice P x.f5.length q] 22)).alloc (.cells #[.slice (some ⟨g20, 0, none⟩) (path.length + 1) cap20, .slice (some ⟨g27, 0, none⟩) (steps.length + 1) cap27, .int .i64 (r), .int .i64 (d + 1), .int .i64 0, .int .i64 0] 52)).heap[Wd.heap.size + 1]? = some (.cells #[.slice (some ⟨g20, 0, none⟩) (path.length + 1) cap20, .slice (some ⟨g27, 0, none⟩) (steps.length + 1) cap27, .int .i64 (r), .int .i64 (d + 1), .int .i64 0, .int .i64 0] 52) := by have := blk_new (Wd.alloc (.cells #[.slice P x.f5.length q] 22)) (.cells #[.slice (some ⟨g20, 0, none⟩) (path.length + 1) cap20, .slice (some ⟨g27, 0, none⟩) (steps.length + 1) cap27, .int .i64 (r), .int .i64 (d + 1), .int .i64 0, .int .i64 0] 52); rwa [World.size_alloc] at this
            have hfr1 : Free_ NB _ Wd.heap.size := Free_.fresh hRwr hBr6 hBd.size
            have hfr2 : Free_ NB _ (Wd.heap.size + 1) := Free_.fresh hRwr hBr6 (Nat.le_trans hBd.size (Nat.le_succ _))
            have hrds := hTb.rds hRwr hal2 hBr6 hwle
            have hRow6 := hRwr.below hBr6
            have hb36 := blk_below (blk_below hb3b hTb.below) hal2
            have hf36 : Free_ NB _ W.heap.size := (hf3.next (blk_lt hb3) HI.out.kc).below (blk_lt (HI.out.kc.cells _ _ hb3 rfl hf3)) hBr6
            have hJ6 := hJ _ _ _ none HI.out.j (grown_of_below hBr6 none) (by simp)
            have hsz6 := hBr6.size
            have hn6 : n₀ ≤ _ := Nat.le_trans hn' hsz6
            have hW6 : W.heap.size ≤ _ := Nat.le_trans (Nat.le_trans hBa.size HI.out.kc.size) hsz6
            have hm6 : ∀ E ∈ Ds, W.heap.size ≤ E ∧ ((Wd.alloc (.cells #[.slice P x.f5.length q] 22)).alloc (.cells #[.slice (some ⟨g20, 0, none⟩) (path.length + 1) cap20, .slice (some ⟨g27, 0, none⟩) (steps.length + 1) cap27, .int .i64 (r), .int .i64 (d + 1), .int .i64 0, .int .i64 0] 52)).heap[E]? = some (.deferred (some [])) := fun E hE => ⟨(HI.out.mks E hE).1, blk_below (HI.out.mks E hE).2 hBr6⟩
            have hl6 := HI.out.lt.mono hsz6
            have hseq := ih x.f5 (path ++ [x.f0]) (steps ++ [x.f1]) (r) (d + 1) (by have := HN_.out; have := HNM.out; omega) (by have := HN_.out; omega) (by have := HN_.out; omega) (by have := HN_.out; have := HNM.out; omega) (by have := HN_.out; have := HNM.out; omega) (by have := HN_.out; have := HNM.out; simp only [List.length_append, List.length_singleton]; omega) (by have := HN_.out; have := HNM.out; simp only [List.length_append, List.length_singleton]; omega)
              8 n₀ NB _ w0 _ P q _ _ _ _ _ _ HMC.out (hBr.trans (hBr6.mono hBr.size)) hn0 hn6 (Nat.le_refl _) hRow6 hbx1 hfr1 hbx2 hfr2 hrds.1 hrds.2
            clear hal1 hbx1 hbx2 hfr1 hfr2 hrds hRow6
            generalize hW6e : (Wd.alloc (.cells #[.slice P x.f5.length q] 22)).alloc (.cells #[.slice (some ⟨g20, 0, none⟩) (path.length + 1) cap20, .slice (some ⟨g27, 0, none⟩) (steps.length + 1) cap27, .int .i64 (r), .int .i64 (d + 1), .int .i64 0, .int .i64 0] 52) = W6 at *
            gi_wp2
            refine ⟨trivial, (leaves_in 8 P x.f5.length q _ _ _ _ _ _ Wd).mono ?_⟩
            rintro e w6 ⟨rfl, rfl⟩
            rw [hW6e]
            clear hW6e
            have HJ6 := Lib.hid hJ6
            gi_wp2
            refine wpIn_range_ownRA rfl (by omega) (gf := 59) (lb := #[.pointer (some ⟨Wd.heap.size, 0, none⟩), .pointer (some ⟨Wd.heap.size + 1, 0, none⟩)]) rfl trivial (enters_of Tryd.func59 (by kernel_rfl) rfl)
              hseq ?rd ?rda (fun Wx o h => (KeepC.refl _ _ Wx).alloc (Nat.le_trans hn6 h) o) (fun xv => .cells xv.arr 52) (fun h k => KeepC.trans h k) (fun Wx lx o o' hl ho hc _ => KeepC.putObj o' (Nat.le_trans hn6 hl) ho hc) (Below.refl _ _) (fun _ => rfl)
              (fun pre Wx => J (ys ++ pre) Wx ∧ KeepC n₀ NB W6 Wx ∧ AllLt (ys ++ pre) Wx.heap.size ∧ ∀ E ∈ Ds, Wx.heap[E]? = some (.deferred (some [])))
              (fun c pre Wx => c = .ret ∧ Jx (ys ++ pre) Wx ∧ ∀ E ∈ Ds, Wx.heap[E]? = some (.deferred (some []))) ?own ?ownx ?h0 (fun (xv : LV) b => { tmps := #[.func (.yield l) #[] #[], .pointer (some ⟨b1, 0, none⟩), .pointer (some ⟨b2, 0, none⟩), .pointer (some ⟨W.heap.size, 0, none⟩), undef, .pointer (some ⟨wr.heap.size, 0, none⟩), .pointer (some ⟨g6, 0, none⟩), .pointer (some ⟨b, 0, none⟩), .slice (some ad) l0.length c, .int .i64 l0.length, .int .i64 (i : Int), .bool true, .pointer (some (ad.add (i * 6))), .agg #[.string x.f0, .int .i64 x.f1, .bool true, .int .i64 x.f3, .int .i64 x.f4, .slice P x.f5.length q], .pointer (some ⟨b2, 0, none⟩), .slice A0 path.length c0, v16, .pointer (some ⟨wr.heap.size, 0, none⟩), .string x.f0, v19, .slice (some ⟨g20, 0, none⟩) (path.length + 1) cap20, .pointer (some ⟨b2, 1, none⟩), .slice A1 steps.length c1, v23, .pointer (some ⟨wr.heap.size, 1, none⟩), .int .i64 x.f1, v26, .slice (some ⟨g27, 0, none⟩) (steps.length + 1) cap27, .pointer (some ⟨b2, 2, none⟩), .int .i64 r, .pointer (some ⟨b2, 3, none⟩), .int .i64 d, v32, .pointer (some ⟨wr.heap.size, 1, none⟩), .int .i64 x.f1, .bool false, u36, u37, u38, u39, .pointer (some ⟨wr.heap.size, 1, none⟩), .int .i64 x.f1, .bool true, .pointer (some ⟨g6, 3, none⟩), .int .i64 d, .int .i64 (d + 1), .pointer (some ⟨g6, 3, none⟩), .pointer (some ⟨wr.heap.size, 2, none⟩), .bool true, .bool false, u50, u51, u52, u53, u54, u55, u56, u57, u58, u59, .pointer (some ⟨wr.heap.size, 5, none⟩), .slice P x.f5.length q, (.agg #[.slice (some ⟨g20, 0, none⟩) (path.length + 1) cap20, .slice (some ⟨g27, 0, none⟩) (steps.length + 1) cap27, .int .i64 (r), .int .i64 (d + 1), .int .i64 0, .int .i64 0]), .func (.func 59) #[] #[.pointer (some ⟨Wd.heap.size, 0, none⟩), .pointer (some ⟨Wd.heap.size + 1, 0, none⟩)], .agg xv.arr, undef, undef, undef, undef, u69], defers := [] }) ?assign ?body ?done ?stop
            case rd =>
              intro i7 x7 Wx l7 o o' hl hx ho hc
              exact hx.kept (grownBy_putObj' Wx l7 o') (fun g e => by cases e; exact ⟨o, ho, fun cs fr => ⟨fun e => by rw [e] at hc; simp [Obj.isCells] at hc, fun e => by rw [e] at hc; simp [Obj.isCells] at hc⟩⟩)
            case rda =>
              intro i7 x7 Wx o hx
              exact hx.kept (World.grownBy_alloc Wx o none) (fun g e => by cases e)
            case own =>
              rintro s A7 B7 row ⟨h1, h2, h3, h4⟩ hgr hr
              exact ⟨hJ _ _ _ row h1 hgr (fun g e => ⟨Nat.le_trans hW6 (hr g e).1, (hr g e).2⟩), h2.grown hn6 hgr (fun g e => ⟨Nat.le_trans hn6 (hr g e).1, (hr g e).2⟩), h3.mono hgr.size, fun E hE => (hgr.block E (blk_lt (h4 E hE)) (fun e => by have := (hr E e.symm).1; have := blk_lt (hm6 E hE).2; omega)).trans (h4 E hE)⟩
            case ownx =>
              rintro c7 s A7 B7 row ⟨h1, h2, h4⟩ hgr hr
              exact ⟨h1, hJx _ _ _ row h2 hgr (fun g e => ⟨Nat.le_trans hW6 (hr g e).1, (hr g e).2⟩), fun E hE => (hgr.block E (blk_lt (h4 E hE)) (fun e => by have := (hr E e.symm).1; have := blk_lt (hm6 E hE).2; omega)).trans (h4 E hE)⟩
            case h0 => exact ⟨by simpa using HJ6.out, KeepC.refl _ _ _, by simpa using hl6, fun E hE => (hm6 E hE).2⟩
            case assign =>
              intro l7 xv W7 K7 hK7
              gi_wp2
              first | exact hK7 | simpa using hK7
            case body =>
              rintro l7 pre xv b W7 hob ⟨hJ7, hk7, hl7, hm7⟩ hlen7 hrd
              have hO := hrd.outer (L := leavesL l0 path steps r d) (by rw [HAT.out, hleaf]) HI.out.len (Nat.le_trans hbase' hsz6) hl6
              have hc0 := blk_cell hob 0
              have hc1 := blk_cell hob 1
              have hc2 := blk_cell hob 2
              have hc3 := blk_cell hob 3
              have hc4 := blk_cell hob 4
              have hc5 := blk_cell hob 5
              have hcy := blk_cell (hk7.cells _ _ hb36 rfl hf36) 0
              obtain ⟨fn, tmps, assign, body, hy, hR1⟩ := YieldAt.anyDL_ rfl 6 (HY.out (ys ++ pre) xv W7 hJ7 hO.1.1 hO)
              dsimp only [LV.arr] at hy
              have HA7 := Lib.hid (hl7.snoc hO.1.2 (Nat.le_refl _))
              have HK7 := Lib.hid hk7
              have HM7 := Lib.hid hm7
              clear hlen7 hrd hO hJ7 hk7 hl7 hm7 hseq
              gi_wp2
              refine (RoundIn.inRoundL_ l7 hR1).mono ?_
              rintro e W8 (⟨rfl, hJ8, hk8, hf8⟩ | ⟨rfl, hJ8, hf8⟩)
              · have hP8 := Lib.hid (show KeepsFrom W6.heap.size W7 W8 ∧ KeepC n₀ NB W7 W8 ∧ J (ys ++ (pre ++ [xv])) W8 ∧ KeepC n₀ NB W6 W8 ∧ AllLt (ys ++ (pre ++ [xv])) W8.heap.size ∧ ∀ E ∈ Ds, W8.heap[E]? = some (.deferred (some [])) from ⟨keepsFrom_lift hf8 hW6, hk8, by rw [← List.append_assoc]; exact hJ8, HK7.out.trans hk8, by rw [← List.append_assoc]; exact HA7.out.mono hf8.size, fun E hE => hf8.same E _ (hm6 E hE).1 (HM7.out E hE) rfl⟩)
                gi_wp2
                exact hP8.out
              · have hP8 := Lib.hid (show KeepsFrom W6.heap.size W7 W8 ∧ Code.ret = Code.ret ∧ Jx (ys ++ (pre ++ [xv])) W8 ∧ ∀ E ∈ Ds, W8.heap[E]? = some (.deferred (some [])) from ⟨keepsFrom_lift hf8 hW6, rfl, by rw [← List.append_assoc]; exact hJ8, fun E hE => hf8.same E _ (hm6 E hE).1 (HM7.out E hE) rfl⟩)
                gi_wp2
                exact ⟨hP8.out.1, rfl, hP8.out.2.2⟩
            case done =>
              rintro E xs W9 hE hxs ⟨hJ9, hk9, hl9, hm9⟩ hK9
              have hE9 := Lib.hid (HI.out.next hlt (by rw [HNX.out, hleaf]) hn' hBr6 xs hxs hJ9 hk9 hl9 (E :: Ds) (List.nodup_cons.2 ⟨fun h => by have := blk_lt (hm6 E h).2; omega, HI.out.nd⟩) (fun E' hE' => by
                rcases List.mem_cons.1 hE' with rfl | hE'
                · exact ⟨Nat.le_trans hW6 hE, hK9⟩
                · exact ⟨(hm6 E' hE').1, hm9 E' hE'⟩))
              clear hseq hJ9 hk9 hl9 hm9 hK9
              gi_wp2
              refine ⟨⟨i + 1, ys ++ xs, E :: Ds, _, _, _, _, _, _, _, _, _, _, _, _, _, _, _, _, _, _, _, _, _, _, _, _, _, _, _, _, _, _, _, _, _, _, _, _, _, _, _, _, _, _, _, _, _, _, _, _, _, _, _, _, _, _, _, _, rfl, hE9.out⟩, ?_⟩
              simp [intOf]
              omega
            case stop =>
              rintro E c7 pre W9 hE _ ⟨rfl, hJ9, hm9⟩ hK9
              clear hseq
              gi_wp2
              refine marks_leave W.heap.size (fun W7 => Jx (ys ++ pre) W7) (fun W7 D hD hh hj => hJx.putObj _ hj hD hh rfl) (fun W7 hj => ⟨_, results_none rfl _ _ _, ⟨_, rfl⟩, .inr ⟨_, trivial, hj⟩⟩) (E :: Ds) W9 (List.nodup_cons.2 ⟨fun h => by have := blk_lt (hm6 E h).2; omega, HI.out.nd⟩) (fun E' hE' => by
                rcases List.mem_cons.1 hE' with rfl | hE'
                · exact ⟨Nat.le_trans hW6 hE, hK9⟩
                · exact ⟨(hm6 E' hE').1, hm9 E' hE'⟩) hJ9
          · have hk4_ := hTb.thaw 4
            have hk5_ := hTb.thaw 5
            have hx4_ := hTb.cells.2.2.2.2.1
            have hx5_ := hTb.cells.2.2.2.2.2
            have hTc := (hTb.set4 x.f3).set5 x.f4
            have hz5_ := (hTb.set4 x.f3).thaw 5
            have hy5_ := (hTb.set4 x.f3).cells.2.2.2.2.2
            generalize hWe : Wd.setCell ⟨g6, 4, none⟩ (.int .i64 x.f3) = We at hTc hz5_ hy5_
            generalize hWf : We.setCell ⟨g6, 5, none⟩ (.int .i64 x.f4) = Wf at hTc
            have hc3 := blk_cell (blk_below hb3b hTc.below) 0
            obtain ⟨hc60, hc61, hc62, hc63, hc64, hc65⟩ := hTc.cells
            have hBf := below_step hBn hTc.below
            have hleaf : leavesN x path steps r d = [(⟨path ++ [x.f0], steps ++ [x.f1], r, d + 1, ⟨x.f3, x.f4⟩⟩ : S52)] := by unfold leavesN; simp [h2, h0, hg]
            have hlv := hTc.lvAt hwle
            have hRd : RdL base (leavesL l0 path steps r d) ys (⟨g20, path.length + 1, cap20, g27, steps.length + 1, cap27, r, d + 1, x.f3, x.f4⟩ : LV) Wf := by
              have := RdL.outer (L := leavesL l0 path steps r d) (M := [(⟨path ++ [x.f0], steps ++ [x.f1], r, d + 1, ⟨x.f3, x.f4⟩⟩ : S52)]) (pre := []) (n := wr.heap.size) (x := (⟨g20, path.length + 1, cap20, g27, steps.length + 1, cap27, r, d + 1, x.f3, x.f4⟩ : LV)) (W := Wf) ⟨⟨by simp, hlv⟩, fun y hy => (nomatch hy)⟩ (by rw [HAT.out, hleaf]) HI.out.len hbase' HI.out.lt
              simpa using this
            have hAll := HI.out.lt.snoc hlv hBf.size
            have hJf := hJ _ _ _ none HI.out.j (grown_of_below hBf none) (by simp)
            obtain ⟨fn, tmps, assign, body, hy, hR1⟩ := YieldAt.anyDL_ rfl 8 (HY.out ys _ Wf hJf hRd.1.1 hRd)
            dsimp only [LV.arr] at hy
            have HE := Lib.hid (fun W5 (hj : J (ys ++ [(⟨g20, path.length + 1, cap20, g27, steps.length + 1, cap27, r, d + 1, x.f3, x.f4⟩ : LV)]) W5) (hk : KeepC n₀ NB Wf W5) (hf : KeepsFrom W.heap.size Wf W5) => HI.out.next hlt (by rw [HNX.out, hleaf]) hn' hBf [(⟨g20, path.length + 1, cap20, g27, steps.length + 1, cap27, r, d + 1, x.f3, x.f4⟩ : LV)] rfl hj hk (hAll.mono hf.size) Ds HI.out.nd (HI.out.marks hBf hf))
            have HMK := Lib.hid (fun W5 (hf : KeepsFrom W.heap.size Wf W5) => HI.out.marks hBf hf)
            have HND := Lib.hid HI.out.nd
            clear hlv hRd hleaf hAll hJf hBf
            gi_wp2
            refine hR1.mono ?_
            rintro e W5 (⟨rfl, hJ5, hk5, hf5⟩ | ⟨rfl, hJ5, hf5⟩)
            · have hE5 := Lib.hid (HE.out W5 hJ5 hk5 hf5)
              gi_wp2
              refine ⟨⟨i + 1, ys ++ [(⟨g20, path.length + 1, cap20, g27, steps.length + 1, cap27, r, d + 1, x.f3, x.f4⟩ : LV)], Ds, _, _, _, _, _, _, _, _, _, _, _, _, _, _, _, _, _, _, _, _, _, _, _, _, _, _, _, _, _, _, _, _, _, _, _, _, _, _, _, _, _, _, _, _, _, _, _, _, _, _, _, _, _, _, _, _, rfl, hE5.out⟩, ?_⟩
              simp [intOf]
              omega
            · have hM5 := Lib.hid (HMK.out W5 hf5)
              gi_wp2
              refine marks_leave W.heap.size (fun W7 => Jx (ys ++ [(⟨g20, path.length + 1, cap20, g27, steps.length + 1, cap27, r, d + 1, x.f3, x.f4⟩ : LV)]) W7) (fun W7 D hD hh hj => hJx.putObj _ hj hD hh rfl) (fun W7 hj => ⟨_, results_none rfl _ _ _, ⟨_, rfl⟩, .inr ⟨_, trivial, hj⟩⟩) Ds W5 HND.out hM5.out hJ5
  · have hie : i = l0.length := by have := hI.hi; omega
    have HL := Lib.hid (show ys.length = (leavesL l0 path steps r d).length by rw [hI.len, hie, List.take_length])
    have HI := Lib.hid hI
    clear hI hie hY ih
    gi_wp2
    refine marks_leave W.heap.size (fun W7 => J ys W7) (fun W7 D hD hh hj => hJ.putObj _ hj hD hh rfl) (fun W7 hj => ⟨_, results_none rfl _ _ _, ⟨_, rfl⟩, .inl ⟨ys, HL.out, hj⟩⟩) Ds wr HI.out.nd HI.out.mks HI.out.j
theorem lv_all : ∀ N, LvSeq N
  | 0 => fun l0 path steps r d hN => absurd hN (Nat.not_lt_zero _)
  | N + 1 => lv_step (lv_all N)


end Go.Proofs.YtjdjlccdidfgoaaDoor.H
end
