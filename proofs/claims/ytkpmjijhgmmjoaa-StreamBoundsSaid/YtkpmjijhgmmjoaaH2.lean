-- Laid by this session's hprint.py, out of the kit's print.py and texts of the session. Not trusted: Lean checks it.
import Derived.Test.YtkpmjijhgmmjoaaH0
import Derived.Lib.Hide
import Derived.LoopIn
import Derived.LoopNIn
import Derived.OwnWalkIn
import Derived.RangeFuncBound
import Derived.RangeFuncCalls
import Derived.RangeFuncLeaves
import Derived.RangeFuncNested
import Derived.Shelf.Abstract
import Derived.Shelf.RegionOpen
import Derived.Stop.RegionWithIn
import Derived.TacticsInMore
import Derived.Test.YtkpmjijhgmmjoaaStreamPlain
namespace Go.Proofs.Ytkpmjijhgmmjoaa.H
open Go.RowKit Go.Proofs.YtkpmjijhgmmjoaaW.PrintWords Go.Proofs.YtkpmjijhgmmjoaaW.PrintLast Go.Proofs.YtkpmjijhgmmjoaaW.PrintMore
attribute [local go_sem] max2_int min2_int max_two min_two max_three min_three max_four min_four   -- for this text's walks alone
set_option linter.unusedVariables false
set_option linter.unusedSimpArgs false

-- OVPART Derived.RangeFuncNested Derived.RangeFuncBound Derived.RangeFuncCalls Derived.RangeFuncLeaves Derived.Shelf.Abstract Derived.Shelf.RegionOpen Derived.OwnWalkIn Derived.TacticsInMore Derived.LoopNIn Derived.LoopIn Derived.Lib.Hide Derived.Stop.RegionWithIn Derived.Test.YtkpmjijhgmmjoaaStreamPlain
/-! ### stream_places: function 23 -/
open Go.Shelf
attribute [local go_sem] Oper.semAt_some
def fst (cnt k : Nat) : Array Value := ((List.range 64).map fun j => if j < k then Value.int .i64 ((j * cnt : Nat) : Int) else Value.int .i64 0).toArray
theorem fst_size (cnt k : Nat) : (fst cnt k).size = 64 := by simp [fst]
theorem fst_at (cnt k j : Nat) (hj : j < 64) : (fst cnt k)[j]? = some (if j < k then Value.int .i64 ((j * cnt : Nat) : Int) else Value.int .i64 0) := by
  unfold fst
  rw [List.getElem?_toArray, List.getElem?_map, List.getElem?_range hj]
  rfl
theorem fst_set (cnt k : Nat) (hk : k < 64) : (fst cnt k).setIfInBounds k (Value.int .i64 ((k * cnt : Nat) : Int)) = fst cnt (k + 1) := by
  apply Array.ext (by simp [fst_size])
  intro i h1 h2
  rw [Array.size_setIfInBounds, fst_size] at h1
  have e2 := fst_at cnt (k + 1) i h1
  have e1 := fst_at cnt k i h1
  rw [Array.getElem?_eq_getElem (by rw [fst_size]; exact h1), Option.some.injEq] at e1 e2
  rw [e2, Array.getElem_setIfInBounds (by rw [fst_size]; exact h1)]
  split
  · rename_i h; subst h; rw [if_pos (by omega)]
  · rename_i h
    rw [e1]
    by_cases h3 : i < k
    · rw [if_pos h3, if_pos (by omega)]
    · rw [if_neg h3, if_neg (by omega)]
set_option maxRecDepth 100000 in
set_option maxHeartbeats 2000000 in
theorem places_in (n w cnt : Nat) (hw0 : 1 ≤ w) (hw1 : w ≤ 64) (hc : w * cnt ≤ 1048576) (W : World) :
    CallsIn Fence.wide n Try.prog 23 #[.int .i64 w, .int .i64 cnt] W fun e w' => e = .returned (.func (.func 24) #[] #[.pointer (some ⟨W.heap.size, 0, none⟩), .pointer (some ⟨W.heap.size + 1, 0, none⟩), .pointer (some ⟨W.heap.size + 2, 0, none⟩)]) ∧
      w'.cell? ⟨W.heap.size, 0, none⟩ = some (.int .i64 w) ∧ w'.cell? ⟨W.heap.size + 1, 0, none⟩ = some (.int .i64 cnt) ∧ w'.heap[W.heap.size + 2]? = some (.cells (fst cnt w) 44 (0, 0)) ∧ Below W.heap.size W w' := by
  refine callsIn_of_wp Try.func23 rfl trivial ?_ rfl
  simp only [Try.ntmps23, List.size_toArray, List.length_cons, List.length_nil, Nat.reduceAdd, Nat.reduceSub, Array.replicate_succ, Array.replicate_zero, List.push_toArray, List.append_toArray, List.nil_append, List.cons_append]
  gi_wp2
  gi_loopw [8] (fun i wr => ∃ k : Nat, k ≤ w ∧ i = .int .i64 k ∧ wr.cell? ⟨W.heap.size, 0, none⟩ = some (.int .i64 w) ∧ wr.cell? ⟨W.heap.size + 1, 0, none⟩ = some (.int .i64 cnt) ∧ wr.heap[W.heap.size + 2]? = some (.cells (fst cnt k) 44 (0, 0)) ∧ Below W.heap.size W wr) (fun i _ => w - (intOf i).toNat)
  case atStart =>
    have q0 : ∀ o, (((W.alloc (.cells #[.int .i64 w] 3)).alloc (.cells #[.int .i64 cnt] 3)).alloc o).cell? ⟨W.heap.size, 0, none⟩ = some (.int .i64 w) := fun o => ((below_alloc (Below.refl _ _) o).cell (p := ⟨W.heap.size, 0, none⟩) (by simp [go_sem])).trans (by simp [go_sem])
    have q1 : ∀ o, (((W.alloc (.cells #[.int .i64 w] 3)).alloc (.cells #[.int .i64 cnt] 3)).alloc o).cell? ⟨W.heap.size + 1, 0, none⟩ = some (.int .i64 cnt) := fun o => ((below_alloc (Below.refl _ _) o).cell (p := ⟨W.heap.size + 1, 0, none⟩) (by simp [go_sem])).trans (by simp [go_sem])
    have q2 : (((W.alloc (.cells #[.int .i64 w] 3)).alloc (.cells #[.int .i64 cnt] 3)).alloc (.cells (fst cnt 0) 44)).heap[W.heap.size + 2]? = some (.cells (fst cnt 0) 44 (0, 0)) := by
      have h := blk_new ((W.alloc (.cells #[.int .i64 w] 3)).alloc (.cells #[.int .i64 cnt] 3)) (.cells (fst cnt 0) 44)
      have hsz : ((W.alloc (.cells #[.int .i64 w] 3)).alloc (.cells #[.int .i64 cnt] 3)).heap.size = W.heap.size + 2 := by simp [go_sem]
      rw [hsz] at h
      exact h
    exact ⟨0, Nat.zero_le _, rfl, q0 _, q1 _, q2, by repeat (first | exact Below.refl _ _ | apply below_alloc)⟩
  case round =>
    obtain ⟨k, hk, rfl, hc0, hc1, hb, hB⟩ := hrel
    by_cases hlt : k < w
    · have hset : ∀ v, (wr.setCell ⟨W.heap.size + 2, k, none⟩ v).heap[W.heap.size + 2]? = some (.cells ((fst cnt k).setIfInBounds k v) 44 (0, 0)) := fun v => blk_set hb _ v
      have hB2 : ∀ v, Below W.heap.size W (wr.setCell ⟨W.heap.size + 2, k, none⟩ v) := fun v => hB.setCell (p := ⟨W.heap.size + 2, k, none⟩) (Nat.le_add_right _ _) v
      have hcc : wr.cell? ⟨W.heap.size + 2, k, none⟩ = some (.int .i64 0) := by rw [blk_cell hb]; exact (fst_at cnt k k (by omega)).trans (by rw [if_neg (by omega)])
      have hff : wr.frozen? ⟨W.heap.size + 2, k, none⟩ = false := blk_frozen hb _
      have hm : k * cnt ≤ 1048576 := Nat.le_trans (Nat.mul_le_mul_right _ hk) hc
      have hmi : ((k : Int) * (cnt : Int)) ≤ 1048576 := by rw [← Int.natCast_mul]; omega
      have hmi0 : 0 ≤ ((k : Int) * (cnt : Int)) := by rw [← Int.natCast_mul]; omega
      have hFS := Lib.hid (fst_set cnt k (by omega))
      have HS := Lib.hid hset
      have HB2 := Lib.hid hB2
      clear hset hB2
      gi_wp2
      have hv : Value.int .i64 ((k * cnt : Nat) : Int) = Value.int .i64 ((k : Int) * (cnt : Int)) := by push_cast; rfl
      have hfs := hFS.out
      rw [hv] at hfs
      have hst := HS.out (Value.int .i64 ((k : Int) * (cnt : Int)))
      rw [hfs] at hst
      have hlow := Below.setCell (Below.refl (W.heap.size + 2) wr) (p := ⟨W.heap.size + 2, k, none⟩) (Nat.le_refl _) (Value.int .i64 ((k : Int) * (cnt : Int)))
      exact ⟨⟨k + 1, by omega, by push_cast; rfl, (hlow.cell (p := ⟨W.heap.size, 0, none⟩) (by show W.heap.size < W.heap.size + 2; omega)).trans hc0, (hlow.cell (p := ⟨W.heap.size + 1, 0, none⟩) (by show W.heap.size + 1 < W.heap.size + 2; omega)).trans hc1, hst, HB2.out _⟩, by simp [intOf]; omega⟩
    · have hke : k = w := by omega
      subst hke
      gi_wp2
      go_ret
      exact ⟨rfl, hc0, hc1, hb, hB⟩
theorem range_pre {k N : Nat} (h : k < N) : List.range (k + 1) <+: List.range N := by
  obtain ⟨d, rfl⟩ : ∃ d, N = k + 1 + d := ⟨N - (k + 1), by omega⟩
  exact ⟨_, List.range_add.symm⟩
structure Keep3 (B0 B1 B2 : Nat) (a b : World) : Prop where
  k0 : b.heap[B0]? = a.heap[B0]?
  k1 : b.heap[B1]? = a.heap[B1]?
  k2 : b.heap[B2]? = a.heap[B2]?
theorem Keep3.trans {B0 B1 B2 : Nat} {a b c : World} (h : Keep3 B0 B1 B2 a b) (k : Keep3 B0 B1 B2 b c) : Keep3 B0 B1 B2 a c := ⟨k.k0.trans h.k0, k.k1.trans h.k1, k.k2.trans h.k2⟩
theorem Keep3.drew {B0 B1 B2 : Nat} {a b c : World} (h : Keep3 B0 B1 B2 a b) (k : Keep3 B0 B1 B2 b.drew c) : Keep3 B0 B1 B2 a c := ⟨k.k0.trans h.k0, k.k1.trans h.k1, k.k2.trans h.k2⟩
theorem grown_drew {a b c : World} {r : Option Nat} (h : a.grownBy b r) (k : b.drew.grownBy c r) : a.grownBy c r :=
  ⟨k.os.trans h.os, k.tape.trans h.tape, k.output.trans h.output, Nat.le_trans h.size k.size, fun i hi hr => (k.block i (Nat.lt_of_lt_of_le hi h.size) hr).trans (h.block i hi hr)⟩
open Go.Proofs.YtkpmjijhgmmjoaaP in
set_option maxRecDepth 100000 in
set_option maxHeartbeats 2000000 in
theorem places1_in (n : Nat) (hn : 1 ≤ n) (l B0 B1 B2 w cnt : Nat) (hw0 : 1 ≤ w) (hw1 : w ≤ 64) (hN0 : 0 < w * cnt) (hN : w * cnt ≤ 1048576) (w0 : World)
    (hc0 : w0.cell? ⟨B0, 0, none⟩ = some (.int .i64 w)) (hc1 : w0.cell? ⟨B1, 0, none⟩ = some (.int .i64 cnt)) (hb : w0.heap[B2]? = some (.cells (fst cnt w) 44 (0, 0))) (J Jx : List Nat → World → Prop)
    (hY : ∀ pre x W, J pre W → pre.length < w * cnt → YieldAt Fence.wide (n - 1) Try.prog l #[.int .i64 ((x % (w * cnt) : Nat) : Int), .int .i64 ((place w cnt (x % (w * cnt)) : Nat) : Int)] W fun e W' =>
      (e = .returned (.bool true) ∧ J (pre ++ [x]) W' ∧ Keep3 B0 B1 B2 W W') ∨ (e = .returned (.bool false) ∧ Jx (pre ++ [x]) W'))
    (W : World) (hJA : AbidesFrom W.heap.size J) (hW : Keep3 B0 B1 B2 w0 W) (h0 : J [] W) :
    CallsIn Fence.wide n Try.prog 24 #[.func (.yield l) #[] #[], .pointer (some ⟨B0, 0, none⟩), .pointer (some ⟨B1, 0, none⟩), .pointer (some ⟨B2, 0, none⟩)] W fun e W' => (∃ v, e = .returned v) ∧
      ((∃ ys, ys = List.range (w * cnt) ∧ J ys W') ∨ (∃ pre, pre <+: List.range (w * cnt) ∧ Jx pre W')) := by
  have k0 := (World.cell?_of_block (w := w0) (a := ⟨B0, 0, none⟩) (hW.k0)).trans hc0
  have k1 := (World.cell?_of_block (w := w0) (a := ⟨B1, 0, none⟩) (hW.k1)).trans hc1
  have hNi : 0 < ((w : Int) * (cnt : Int)) := by rw [← Int.natCast_mul]; omega
  have hNj : ((w : Int) * (cnt : Int)) ≤ 1048576 := by rw [← Int.natCast_mul]; omega
  refine callsIn_of_wp Try.func24 rfl trivial ?_ rfl
  simp only [Try.ntmps24, List.size_toArray, List.length_cons, List.length_nil, Nat.reduceAdd, Nat.reduceSub, Array.replicate_succ, Array.replicate_zero, List.push_toArray, List.append_toArray, List.nil_append, List.cons_append]
  gi_wp2
  gi_loopw [9] (fun i wr => ∃ k : Nat, k ≤ w * cnt ∧ i = .int .i64 k ∧ J (List.range k) wr ∧ Keep3 B0 B1 B2 w0 wr) (fun i _ => w * cnt - (intOf i).toNat)
  case atStart => exact ⟨0, Nat.zero_le _, rfl, h0, hW⟩
  case round =>
    obtain ⟨k, hk, rfl, hJ, hB⟩ := hrel
    have c0 := (World.cell?_of_block (w := w0) (a := ⟨B0, 0, none⟩) (hB.k0)).trans hc0
    have c1 := (World.cell?_of_block (w := w0) (a := ⟨B1, 0, none⟩) (hB.k1)).trans hc1
    have hbw := (hB.k2).trans hb
    by_cases hlt : k < w * cnt
    · have hkw : k % w < w := Nat.mod_lt _ (by omega)
      have c2 : wr.cell? ⟨B2, k % w, none⟩ = some (.int .i64 (((k % w) * cnt : Nat) : Int)) := by
        rw [blk_cell hbw]
        exact (fst_at cnt w (k % w) (by omega)).trans (by rw [if_pos hkw])
      have hlti : (k : Int) < (w : Int) * (cnt : Int) := by rw [← Int.natCast_mul]; omega
      have hrem : Int.tmod (k : Int) (w : Int) = ((k % w : Nat) : Int) := by rw [Int.tmod_eq_emod_of_nonneg (by omega)]; rfl
      have hquo : Int.tdiv (k : Int) (w : Int) = ((k / w : Nat) : Int) := by rw [Int.tdiv_eq_ediv_of_nonneg (by omega)]; rfl
      have hpl := place_lt hlt
      have hY1 := hY (List.range k) k wr.drew (hJA _ _ _ none hJ ⟨rfl, rfl, rfl, Nat.le_refl _, fun _ _ _ => rfl⟩ (fun _ h => by cases h)) (by rw [List.length_range]; exact hlt)
      rw [Nat.mod_eq_of_lt hlt] at hY1
      have hpi : ((place w cnt k : Nat) : Int) = ((k % w * cnt : Nat) : Int) + ((k / w : Nat) : Int) := by unfold place; omega
      rw [hpi] at hY1
      have hsum : ((k % w * cnt : Nat) : Int) + ((k / w : Nat) : Int) < 1048576 := by unfold place at hpl; omega
      have hwr : ∀ x : Int, 0 ≤ x → x < 2000000 → IntKind.i64.wrap x = x := fun x h0 h1 => by
        rw [IntKind.wrap_i64]
        omega
      have hp0 : (0 : Int) ≤ ((k % w * cnt : Nat) : Int) := Int.natCast_nonneg _
      have hq0 : (0 : Int) ≤ ((k / w : Nat) : Int) := Int.natCast_nonneg _
      clear hpi hpl hJ hbw hY
      generalize hP : ((k % w * cnt : Nat) : Int) = pp at *
      generalize hQ : ((k / w : Nat) : Int) = qq at *
      have hwq := hwr qq (by omega) (by omega)
      have hws := hwr (pp + qq) (by omega) (by omega)
      clear hwr
      obtain ⟨fn, tmps, assign, body, hy, hR1⟩ := hY1
      gi_wp2
      have hR2 := hR1.mono (fun e W3 h => (h.elim (fun h => ⟨true, h.1, Or.inl ⟨rfl, h.2.1, h.2.2⟩⟩) (fun h => ⟨false, h.1, Or.inr ⟨rfl, h.2⟩⟩) : ∃ b : Bool, e = .returned (.bool b) ∧ ((b = true ∧ J (List.range k ++ [k]) W3 ∧ Keep3 B0 B1 B2 wr.drew W3) ∨ (b = false ∧ Jx (List.range k ++ [k]) W3))))
      clear hR1
      gi_region_with (refine hR2.mono ?_; rintro e W3 ⟨bb, rfl, hres⟩)
      all_goals rcases hres with ⟨rfl, hJ3, hk3⟩ | ⟨rfl, hJx3⟩
      all_goals gi_wp2
      all_goals first
        | exact ⟨⟨k + 1, hlt, by push_cast; rfl, by rw [List.range_succ]; exact hJ3, hB.drew hk3⟩, by simp [intOf]; omega⟩
        | (refine bodyPost_ret (results_none rfl _ _ _) rfl ?_; exact ⟨⟨_, rfl⟩, .inr ⟨_, by rw [← List.range_succ]; exact range_pre hlt, hJx3⟩⟩)
        | skip
      all_goals trace_state
    · have hke : k = w * cnt := by omega
      subst hke
      gi_wp2
      go_end0
      exact ⟨⟨_, rfl⟩, .inl ⟨_, rfl, hJ⟩⟩
open Go.Proofs.YtkpmjijhgmmjoaaP in
theorem places_stops (n : Nat) (hn : 1 ≤ n) (B0 B1 B2 w cnt : Nat) (hw0 : 1 ≤ w) (hw1 : w ≤ 64) (hN0 : 0 < w * cnt) (hN : w * cnt ≤ 1048576) (w0 : World)
    (hc0 : w0.cell? ⟨B0, 0, none⟩ = some (.int .i64 w)) (hc1 : w0.cell? ⟨B1, 0, none⟩ = some (.int .i64 cnt)) (hb : w0.heap[B2]? = some (.cells (fst cnt w) 44 (0, 0))) (h0B : B0 < w0.heap.size) (h1B : B1 < w0.heap.size) (h2B : B2 < w0.heap.size) :
    SeqStopsK Fence.wide n Try.prog 24 #[.pointer (some ⟨B0, 0, none⟩), .pointer (some ⟨B1, 0, none⟩), .pointer (some ⟨B2, 0, none⟩)] (fun x : Nat => #[Value.int .i64 ((x % (w * cnt) : Nat) : Int), Value.int .i64 ((place w cnt (x % (w * cnt)) : Nat) : Int)]) (Keep3 B0 B1 B2) (fun ys => ys = List.range (w * cnt)) (fun pre => pre <+: List.range (w * cnt)) (w * cnt) w0 := fun l J Jx W hW hJA _ hY h0 =>
  places1_in n hn l B0 B1 B2 w cnt hw0 hw1 hN0 hN w0 hc0 hc1 hb J Jx hY W hJA ⟨hW.block B0 h0B, hW.block B1 h1B, hW.block B2 h2B⟩ h0


end Go.Proofs.Ytkpmjijhgmmjoaa.H
