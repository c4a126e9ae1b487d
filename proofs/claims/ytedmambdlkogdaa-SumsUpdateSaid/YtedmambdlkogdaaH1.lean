-- Laid by this session's hprint.py, out of the kit's print.py and texts of the session. Not trusted: Lean checks it.
import Derived.Test.YtedmambdlkogdaaH0
import Derived.Laws.BitsAllLaws
import Derived.Laws.BitsLemmas
import Derived.Lib.Hide
import Derived.LoopIn
import Derived.LoopNIn
import Derived.OwnWalkIn
import Derived.RangeFuncBound
import Derived.RangeFuncCalls
import Derived.RangeFuncLeaves
import Derived.RangeFuncNested
import Derived.Shelf.Abstract
import Derived.Shelf.RegionOpen
import Derived.TacticsInMore
namespace Go.Proofs.Ytedmambdlkogdaa.H
open Go.RowKit Go.Proofs.YtedmambdlkogdaaW.PrintWords Go.Proofs.YtedmambdlkogdaaW.PrintLast Go.Proofs.YtedmambdlkogdaaW.PrintMore
attribute [local go_sem] max2_int min2_int max_two min_two max_three min_three max_four min_four   -- for this text's walks alone
set_option linter.unusedVariables false
set_option linter.unusedSimpArgs false

-- OVPART Derived.RangeFuncNested Derived.RangeFuncBound Derived.RangeFuncCalls Derived.RangeFuncLeaves Derived.Shelf.Abstract Derived.Shelf.RegionOpen Derived.OwnWalkIn Derived.TacticsInMore Derived.LoopNIn Derived.LoopIn Derived.Laws.BitsAllLaws Derived.Laws.BitsLemmas Derived.Lib.Hide
/-! ### sums_halves: function 23 -/
open Go.Shelf
attribute [local go_sem] Oper.semAt_some
/-- The half bytes of bytes, the lower one ahead. -/
def halves (bs : List Int) : List Nat := bs.flatMap fun c => [c.toNat % 16, c.toNat / 16]
theorem halves_len (bs : List Int) : (halves bs).length = 2 * bs.length := by
  induction bs with
  | nil => rfl
  | cons c bs ih => simp [halves] at ih ⊢; omega
theorem halves_take (bs : List Int) (k : Nat) (hk : k < bs.length) : halves (bs.take (k + 1)) = halves (bs.take k) ++ [(rd bs k).toNat % 16] ++ [(rd bs k).toNat / 16] := by
  rw [List.take_succ_eq_append_getElem hk]
  unfold halves
  rw [List.flatMap_append, List.append_assoc]
  congr 1
  simp [rd, List.getElem?_eq_getElem hk]
theorem halves_pre (bs : List Int) (k : Nat) : halves (bs.take k) <+: halves bs := by
  refine ⟨halves (bs.drop k), ?_⟩
  unfold halves
  rw [← List.flatMap_append, List.take_append_drop]
theorem and15_u8 {c : Int} (h0 : 0 ≤ c) (h1 : c < 256) : bits .and .u8 c 15 = c % 16 := u8_and15 c h0 h1
set_option maxRecDepth 100000 in
set_option maxHeartbeats 2000000 in
theorem halves1_in (n : Nat) (hn : 1 ≤ n) (l Bn : Nat) (w0 : World) (A : Option Addr) (c : Nat) (bs : List Int) (hbs : ∀ x ∈ bs, 0 ≤ x ∧ x < 256) (hR : Kd.C (Kd.int .u8) w0 A bs.length bs) (J Jx : List Nat → World → Prop)
    (hY : ∀ pre x W, J pre W → pre.length < 2 * bs.length → YieldAt Fence.wide (n - 1) Try.prog l #[.int .u32 ((x % 16 : Nat) : Int)] W fun e W' =>
      (e = .returned (.bool true) ∧ J (pre ++ [x]) W' ∧ Below w0.heap.size W W') ∨ (e = .returned (.bool false) ∧ Jx (pre ++ [x]) W'))
    (W : World) (hW : Below w0.heap.size w0 W) (hBn : W.cell? ⟨Bn, 0, none⟩ = some (.slice A bs.length c)) (h0 : J [] W) :
    CallsIn Fence.wide n Try.prog 26 #[.func (.yield l) #[] #[], .pointer (some ⟨Bn, 0, none⟩)] W fun e W' => (∃ v, e = .returned v) ∧
      ((∃ ys, ys = halves bs ∧ J ys W') ∨ (∃ pre, pre <+: halves bs ∧ Jx pre W')) := by
  have hmax := Kd.C_max hR
  refine callsIn_of_wp Try.func26 rfl trivial ?_ rfl
  simp only [Try.ntmps26, List.size_toArray, List.length_cons, List.length_nil, Nat.reduceAdd, Nat.reduceSub, Array.replicate_succ, Array.replicate_zero, List.push_toArray, List.append_toArray, List.nil_append, List.cons_append]
  gi_wp2
  gi_loopw [7] (fun i wr => ∃ k : Nat, k ≤ bs.length ∧ i = .int .i64 k ∧ J (halves (bs.take k)) wr ∧ Below w0.heap.size w0 wr) (fun i _ => bs.length - (intOf i).toNat)
  case atStart => exact ⟨0, Nat.zero_le _, rfl, by simpa [halves] using h0, hW⟩
  case round =>
    obtain ⟨k, hk, rfl, hJ, hB⟩ := hrel
    by_cases hlt : k < bs.length
    · obtain ⟨ad, rfl, hcell⟩ := Kd.at_int (Kd.C_below hR hB) (k : Int) (by omega) (by omega)
      have hx := hbs (rd bs k) (by unfold rd; rw [List.getD_eq_getElem?_getD, Int.toNat_natCast, List.getElem?_eq_getElem hlt]; simp)
      have hcell' : wr.cell? (ad.add k) = some (.int .u8 (rd bs k)) := by simpa using hcell
      clear hcell
      obtain ⟨hx0, hx1⟩ := hx
      have ht := halves_take bs k hlt
      have hl1 := halves_len (bs.take k)
      have hl2 : (bs.take k).length = k := by simp; omega
      have hY1 := hY _ ((rd bs k).toNat % 16) wr hJ (by omega)
      rw [show (((rd bs k).toNat % 16 % 16 : Nat) : Int) = rd bs k % 16 by omega] at hY1
      have hand := and15_u8 hx0 hx1
      have HT := Lib.hid ht
      have HL := Lib.hid hl1
      have HL2 := Lib.hid hl2
      clear ht hl1 hl2
      obtain ⟨fn, tmps, assign, body, hy, hR1⟩ := hY1
      generalize hq : rd bs k = q at *
      gi_wp2
      refine hR1.mono ?_
      rintro e W3 (⟨rfl, hJ3, hk3⟩ | ⟨rfl, hJx3⟩)
      · obtain ⟨fn2, tmps2, assign2, body2, hy2, hR2⟩ := by
          have hY2 := hY _ (q.toNat / 16) W3 hJ3 (by rw [List.length_append, HL.out, HL2.out]; simp; omega)
          rw [show ((q.toNat / 16 % 16 : Nat) : Int) = q / 16 by omega] at hY2
          exact hY2
        clear hR1 hy
        gi_wp2
        refine hR2.mono ?_
        rintro e W4 (⟨rfl, hJ4, hk4⟩ | ⟨rfl, hJx4⟩)
        · gi_wp2
          go_roundw
          case rel => exact ⟨k + 1, by omega, by go_num, by rw [HT.out]; exact hJ4, (hB.trans hk3).trans hk4⟩
          case measure => simp [intOf]; omega
        · gi_wp2
          refine bodyPost_ret (results_none rfl _ _ _) rfl ?_
          exact ⟨⟨_, rfl⟩, .inr ⟨_, by rw [← HT.out]; exact halves_pre bs (k + 1), hJx4⟩⟩
      · gi_wp2
        refine ⟨fun _ _ => trivial, ?_⟩
        gi_wp2
        refine bodyPost_ret (results_none rfl _ _ _) rfl ?_
        refine ⟨⟨_, rfl⟩, .inr ⟨_, ?_, hJx3⟩⟩
        refine List.IsPrefix.trans ?_ (halves_pre bs (k + 1))
        rw [HT.out]
        exact List.prefix_append _ _
    · have hke : k = bs.length := by omega
      gi_wp2
      go_end0
      exact ⟨⟨_, rfl⟩, .inl ⟨_, rfl, by rw [hke, List.take_length] at hJ; exact hJ⟩⟩
set_option maxHeartbeats 1000000 in
theorem halves_in (n : Nat) (A : Option Addr) (m c : Nat) (w : World) :
    CallsIn Fence.wide n Try.prog 23 #[.slice A m c] w fun e w' => e = .returned (.func (.func 26) #[] #[.pointer (some ⟨w.heap.size, 0, none⟩)]) ∧ w' = w.alloc (.cells #[.slice A m c] 22) := by
  refine callsIn_of_wp Try.func23 rfl trivial ?_ rfl
  simp only [Try.ntmps23, List.size_toArray, List.length_cons, List.length_nil, Nat.reduceAdd, Nat.reduceSub, Array.replicate_succ, Array.replicate_zero, List.push_toArray, List.append_toArray, List.nil_append, List.cons_append]
  gi_wp2
  go_ret
  exact ⟨rfl, rfl⟩
theorem halves_stops (n : Nat) (hn : 1 ≤ n) (Bn : Nat) (w0 : World) (A : Option Addr) (c : Nat) (bs : List Int) (hbs : ∀ x ∈ bs, 0 ≤ x ∧ x < 256) (hR : Kd.C (Kd.int .u8) w0 A bs.length bs) (w : World) (hB : Below w0.heap.size w0 w) (hBn : Bn < w.heap.size)
    (hc : w.cell? ⟨Bn, 0, none⟩ = some (.slice A bs.length c)) :
    SeqStopsK Fence.wide n Try.prog 26 #[.pointer (some ⟨Bn, 0, none⟩)] (fun x : Nat => #[Value.int .u32 ((x % 16 : Nat) : Int)]) (Below w0.heap.size) (fun ys => ys = halves bs) (fun pre => pre <+: halves bs) (2 * bs.length) w := fun l J Jx W hW _ _ hY h0 =>
  halves1_in n hn l Bn w0 A c bs hbs hR J Jx hY W (hB.trans (hW.mono hB.size)) ((hW.cell (p := ⟨Bn, 0, none⟩) hBn).trans hc) h0


end Go.Proofs.Ytedmambdlkogdaa.H
