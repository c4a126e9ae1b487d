/- Texts of the claim, packed: H26. -/
import Derived.Lib.Hide
import Derived.LoopIn
import Derived.LoopNIn
import Derived.OwnWalkIn
import Derived.RangeFuncBound
import Derived.RangeFuncCalls
import Derived.RangeFuncLeaves
import Derived.RangeFuncNested
import Derived.Shelf.Abstract
import Derived.Shelf.RegionOpen
import Derived.TacticsInMore
import Derived.Test.YteokhlpleimnbaaZShredSlice5
section
-- Laid by this session's hprint.py, out of the kit's print.py and texts of the session. Not trusted: Lean checks it.
namespace Go.Proofs.Yteokhlpleimnbaa.H
open Go.RowKit Go.Proofs.YteokhlpleimnbaaW.PrintWords Go.Proofs.YteokhlpleimnbaaW.PrintLast Go.Proofs.YteokhlpleimnbaaW.PrintMore
attribute [local go_sem] max2_int min2_int max_two min_two max_three min_three max_four min_four
set_option linter.unusedVariables false
set_option linter.unusedSimpArgs false

-- OVPART Derived.RangeFuncNested Derived.RangeFuncBound Derived.RangeFuncCalls Derived.RangeFuncLeaves Derived.Shelf.Abstract Derived.Shelf.RegionOpen Derived.OwnWalkIn Derived.TacticsInMore Derived.LoopNIn Derived.LoopIn Derived.Lib.Hide
open Go.Shelf
attribute [local go_sem] Oper.semAt_some
def zs_ (l : List Int) (k : Nat) : List Nat := (List.range k).filter (fun j => decide (rd l (j : Int) = 0))
theorem zs_hit (l : List Int) (k : Nat) (h : rd l (k : Int) = 0) : zs_ l (k + 1) = zs_ l k ++ [k] := by
 unfold zs_
 rw [List.range_succ, List.filter_append]
 simp [h]
theorem zs_miss (l : List Int) (k : Nat) (h : ¬ rd l (k : Int) = 0) : zs_ l (k + 1) = zs_ l k := by
 unfold zs_
 rw [List.range_succ, List.filter_append]
 simp [h]
theorem zs_le (l : List Int) (k : Nat) : (zs_ l k).length ≤ k := by
 unfold zs_
 exact Nat.le_trans (List.length_filter_le _ _) (by simp)
theorem zs_pre (l : List Int) (k n : Nat) (h : k ≤ n) : zs_ l k <+: zs_ l n := by
 obtain ⟨d, rfl⟩ : ∃ d, n = k + d := ⟨n - k, by omega⟩
 unfold zs_
 rw [List.range_add, List.filter_append]
 exact List.prefix_append _ _
set_option maxRecDepth 100000 in
set_option maxHeartbeats 2000000 in
theorem starts1_in (n : Nat) (hn : 1 ≤ n) (l Bn : Nat) (w0 : World) (A : Option Addr) (c : Nat) (rs : List Int) (hlen : rs.length ≤ 1000000) (hR : Kd.C (Kd.int .i64) w0 A rs.length rs) (J Jx : List Nat → World → Prop)
  (hY : ∀ pre x W, J pre W → pre.length < rs.length → YieldAt Fence.wide (n - 1) Try.prog l #[.int .i64 (x : Nat)] W fun e W' =>
   (e = .returned (.bool true) ∧ J (pre ++ [x]) W' ∧ Below w0.heap.size W W') ∨ (e = .returned (.bool false) ∧ Jx (pre ++ [x]) W'))
  (W : World) (hW : Below w0.heap.size w0 W) (hBn : W.cell? ⟨Bn, 0, none⟩ = some (.slice A rs.length c)) (h0 : J [] W) :
  CallsIn Fence.wide n Try.prog 39 #[.func (.yield l) #[] #[], .pointer (some ⟨Bn, 0, none⟩)] W fun e W' => (∃ v, e = .returned v) ∧
   ((∃ ys, ys = zs_ rs rs.length ∧ J ys W') ∨ (∃ pre, pre <+: zs_ rs rs.length ∧ Jx pre W')) := by
 refine callsIn_of_wp Try.func39 rfl trivial ?_ rfl
 simp only [Try.ntmps39, List.size_toArray, List.length_cons, List.length_nil, Nat.reduceAdd, Nat.reduceSub, Array.replicate_succ, Array.replicate_zero, List.push_toArray, List.append_toArray, List.nil_append, List.cons_append]
 gi_wp2
 gi_loopw [8] (fun i wr => ∃ k : Nat, k ≤ rs.length ∧ i = .int .i64 k ∧ J (zs_ rs k) wr ∧ Below w0.heap.size w0 wr) (fun i _ => rs.length - (intOf i).toNat)
 case atStart => exact ⟨0, Nat.zero_le _, rfl, by simpa [zs_] using h0, hW⟩
 case round =>
  obtain ⟨k, hk, rfl, hJ, hB⟩ := hrel
  by_cases hlt : k < rs.length
  ·obtain ⟨ad, rfl, hcell⟩ := Kd.at_int (Kd.C_below hR hB) (k : Int) (by omega) (by omega)
   have hcell' : wr.cell? (ad.add k) = some (.int .i64 (rd rs k)) := by simpa using hcell
   clear hcell
   by_cases hz : rd rs (k : Int) = 0
   ·have HT := Lib.hid (zs_hit rs k hz)
    have HP := Lib.hid (zs_pre rs (k + 1) rs.length hlt)
    have hl1 := zs_le rs k
    have hY1 := hY _ k wr hJ (by omega)
    rw [hz] at hcell'
    clear hl1 hz
    obtain ⟨fn, tmps, assign, body, hy, hR1⟩ := hY1
    gi_wp2
    refine hR1.mono ?_
    rintro e W3 (⟨rfl, hJ3, hk3⟩ | ⟨rfl, hJx3⟩)
    ·gi_wp2
     go_roundw
     case rel => exact ⟨k + 1, by omega, by go_num, by rw [HT.out]; exact hJ3, hB.trans hk3⟩
     case measure => simp [intOf]; omega
    ·gi_wp2
     refine bodyPost_ret (results_none rfl _ _ _) rfl ?_
     exact ⟨⟨_, rfl⟩, .inr ⟨_, by rw [← HT.out]; exact HP.out, hJx3⟩⟩
   ·have HT := Lib.hid (zs_miss rs k hz)
    have hzb : (rd rs (k : Int) == 0) = false := beq_eq_false_iff_ne.mpr hz
    clear hz
    gi_wp2
    refine ⟨fun _ _ => trivial, ?_⟩
    gi_wp2
    go_roundw
    case rel => exact ⟨k + 1, by omega, by go_num, by rw [HT.out]; exact hJ, hB⟩
    case measure => simp [intOf]; omega
  ·have hke : k = rs.length := by omega
   gi_wp2
   go_end0
   exact ⟨⟨_, rfl⟩, .inl ⟨_, rfl, by rw [hke] at hJ; exact hJ⟩⟩
set_option maxHeartbeats 1000000 in
theorem starts_in (n : Nat) (v0 v1 v2 : Value) (w : World) :
  CallsIn Fence.wide n Try.prog 20 #[.agg #[v0, v1, v2]] w fun e w' => e = .returned (.func (.func 39) #[] #[.pointer (some ⟨w.heap.size, 0, none⟩)]) ∧ w' = w.alloc (.cells #[v0, v1, v2] 28) := by
 refine callsIn_of_wp Try.func20 rfl trivial ?_ rfl
 simp only [Try.ntmps20, List.size_toArray, List.length_cons, List.length_nil, Nat.reduceAdd, Nat.reduceSub, Array.replicate_succ, Array.replicate_zero, List.push_toArray, List.append_toArray, List.nil_append, List.cons_append]
 gi_wp2
 go_ret
 exact ⟨rfl, rfl⟩
theorem starts_stops (n : Nat) (hn : 1 ≤ n) (Bn : Nat) (w0 : World) (A : Option Addr) (c : Nat) (rs : List Int) (hlen : rs.length ≤ 1000000) (hR : Kd.C (Kd.int .i64) w0 A rs.length rs) (w : World) (hB : Below w0.heap.size w0 w) (hBn : Bn < w.heap.size)
  (hc : w.cell? ⟨Bn, 0, none⟩ = some (.slice A rs.length c)) :
  SeqStopsK Fence.wide n Try.prog 39 #[.pointer (some ⟨Bn, 0, none⟩)] (fun x : Nat => #[Value.int .i64 (x : Nat)]) (Below w0.heap.size) (fun ys => ys = zs_ rs rs.length) (fun pre => pre <+: zs_ rs rs.length) rs.length w := fun l J Jx W hW _ _ hY h0 =>
 starts1_in n hn l Bn w0 A c rs hlen hR J Jx hY W (hB.trans (hW.mono hB.size)) ((hW.cell (p := ⟨Bn, 0, none⟩) hBn).trans hc) h0


end Go.Proofs.Yteokhlpleimnbaa.H
end
