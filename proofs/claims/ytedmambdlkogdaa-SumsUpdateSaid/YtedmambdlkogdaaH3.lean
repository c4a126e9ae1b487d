-- Laid by this session's hprint.py, out of the kit's print.py and texts of the session. Not trusted: Lean checks it.
import Derived.Test.YtedmambdlkogdaaH0
import Derived.Test.YtedmambdlkogdaaH1
import Derived.Test.YtedmambdlkogdaaH2
import Derived.Laws.BitsAllLaws
import Derived.Laws.BitsLemmas
import Derived.Lib.Hide
import Derived.LoopIn
import Derived.LoopNIn
import Derived.OwnWalkIn
import Derived.RangeFuncBound
import Derived.RangeFuncCalls
import Derived.RangeFuncLeaves
import Derived.RangeFuncNested
import Derived.Shelf.Abstract
import Derived.Shelf.RegionOpen
import Derived.TacticsInMore
import Derived.Test.YtedmambdlkogdaaCrcPlain
import Derived.WalkLawsBesides
namespace Go.Proofs.Ytedmambdlkogdaa.H
open Go.RowKit Go.Proofs.YtedmambdlkogdaaW.PrintWords Go.Proofs.YtedmambdlkogdaaW.PrintLast Go.Proofs.YtedmambdlkogdaaW.PrintMore
attribute [local go_sem] max2_int min2_int max_two min_two max_three min_three max_four min_four   -- for this text's walks alone
set_option linter.unusedVariables false
set_option linter.unusedSimpArgs false

-- OVPART Derived.WalkLawsBesides Derived.RangeFuncNested Derived.RangeFuncBound Derived.RangeFuncCalls Derived.RangeFuncLeaves Derived.Shelf.Abstract Derived.Shelf.RegionOpen Derived.OwnWalkIn Derived.TacticsInMore Derived.LoopNIn Derived.LoopIn Derived.Laws.BitsAllLaws Derived.Laws.BitsLemmas Derived.Lib.Hide Derived.Test.YtedmambdlkogdaaCrcPlain
/-! ### sums_Update: function 15 -/
open Go.Shelf Go.Proofs.YtedmambdlkogdaaC
attribute [local go_sem] Oper.semAt_some
/-- What goes on with a sum. -/
def updI (a0 : Int) (l : List Int) : Int := ((4294967295 - CrcPlain.upd (4294967295 - a0.toNat) (l.map Int.toNat) : Nat) : Int)
def sums_Update.f (a0 : Int) (l1 : List Int) : Option Int := if (0 ≤ a0 ∧ a0 < 4294967296 ∧ ∀ x ∈ l1, 0 ≤ x ∧ x < 256) then some (updI a0 l1) else none
theorem sums_Update.f_some {a0 : Int} {l1 : List Int} (h0 : 0 ≤ a0) (h1 : a0 < 4294967296) (hl : ∀ x ∈ l1, 0 ≤ x ∧ x < 256) : sums_Update.f a0 l1 = some (updI a0 l1) := by
  unfold sums_Update.f
  rw [if_pos ⟨h0, h1, hl⟩]
/-- The state behind some half bytes. -/
def stH (s : Nat) (hs : List Nat) : Nat := hs.foldl (fun s h => CrcPlain.steps 4 (s ^^^ h % 16)) s
theorem stH_snoc (s : Nat) (hs : List Nat) (h : Nat) : stH s (hs ++ [h]) = CrcPlain.steps 4 (stH s hs ^^^ h % 16) := by simp [stH]
theorem stH_lt {s : Nat} (hs : List Nat) (h0 : s < 4294967296) : stH s hs < 4294967296 := by
  induction hs generalizing s with
  | nil => exact h0
  | cons h hs ih => exact ih (s := CrcPlain.steps 4 (s ^^^ h % 16)) (CrcPlain.steps_lt 4 (Nat.xor_lt_two_pow (n := 32) h0 (by omega)))
theorem stH_halves (s : Nat) (bs : List Int) (hbs : ∀ x ∈ bs, 0 ≤ x ∧ x < 256) : stH s (halves bs) = CrcPlain.upd s (bs.map Int.toNat) := by
  induction bs generalizing s with
  | nil => rfl
  | cons c bs ih =>
    have hc := hbs c (by simp)
    have e1 : halves (c :: bs) = [c.toNat % 16] ++ ([c.toNat / 16] ++ halves bs) := by simp [halves]
    have e2 : stH s (halves (c :: bs)) = stH (CrcPlain.steps 4 (CrcPlain.steps 4 (s ^^^ c.toNat % 16 % 16) ^^^ c.toNat / 16 % 16)) (halves bs) := by rw [e1]; simp [stH]
    rw [e2, show c.toNat % 16 % 16 = c.toNat % 16 by omega, show c.toNat / 16 % 16 = c.toNat / 16 by omega, CrcPlain.byte_halves, ih _ (fun x hx => hbs x (by simp [hx]))]
    rfl
theorem xorAll (s : Nat) (hs : s < 4294967296) : s ^^^ 4294967295 = 4294967295 - s := by
  apply Nat.eq_of_testBit_eq
  intro i
  rw [show (4294967295 : Nat) - s = 2 ^ 32 - (s + 1) by omega, Nat.testBit_two_pow_sub_succ (by omega), Nat.testBit_xor, show (4294967295 : Nat) = 2 ^ 32 - 1 from rfl, Nat.testBit_two_pow_sub_one]
  by_cases hi : i < 32
  · simp [hi]
  · have h2 : (2 : Nat) ^ 32 ≤ 2 ^ i := Nat.pow_le_pow_right (by omega) (by omega)
    rw [Nat.testBit_lt_two_pow (Nat.lt_of_lt_of_le (show s < 2 ^ 32 by omega) h2)]
    simp [hi]
theorem u32_signed_ : IntKind.u32.signed = false := rfl
theorem u32_max_ : IntKind.u32.max = 4294967295 := rfl
attribute [local go_sem] u32_signed_ u32_max_
theorem not_u32 (s : Nat) (hs : s < 4294967296) : bits .xor .u32 4294967295 (s : Int) = ((4294967295 - s : Nat) : Int) := by
  rw [show (4294967295 : Int) = ((4294967295 : Nat) : Int) from rfl, u32_xor_nat _ _ (by omega) hs, Nat.xor_comm, xorAll s hs]
set_option maxRecDepth 100000 in
set_option maxHeartbeats 2000000 in
theorem sums_Update.calls (a0 : Int) (A1 : Option Addr) (c1 : Nat) (l1 : List Int) (r : Int) (w : World) (hr1 : Kd.C (Kd.int .u8) w A1 l1.length l1) (hc1 : l1.length ≤ c1) (h : sums_Update.f a0 l1 = some r) :
    Calls Try.prog 15 #[.int .u32 a0, .slice A1 l1.length c1] w fun e w' => e = .returned (.int .u32 r) ∧ Below w.heap.size w w' := by
  unfold sums_Update.f at h
  split at h
  case isFalse => simp at h
  case isTrue hpre =>
  obtain ⟨ha0, ha1, hbs⟩ := hpre
  obtain rfl := Option.some.inj h
  clear h
  obtain ⟨n, rfl⟩ := Int.eq_ofNat_of_zero_le ha0
  have hn : n < 4294967296 := by omega
  have hfin : updI (n : Int) l1 = ((4294967295 - stH (4294967295 - n) (halves l1) : Nat) : Int) := by rw [stH_halves _ _ hbs]; rfl
  have HF := Lib.hid hfin
  clear hfin
  have hn0 := not_u32 n hn
  obtain ⟨s0, hs0⟩ : ∃ s0, s0 = 4294967295 - n := ⟨_, rfl⟩
  have hs1 : s0 < 4294967296 := by omega
  rw [← hs0] at HF hn0
  clear hs0
  refine (callsIn_wide (n := 6)).1 ?_
  refine callsIn_of_wp_marks Try.func15 rfl trivial ?_ rfl
  simp only [Try.ntmps15, List.size_toArray, List.length_cons, List.length_nil, Nat.reduceAdd, Nat.reduceSub, Array.replicate_succ, Array.replicate_zero, List.push_toArray, List.append_toArray, List.nil_append, List.cons_append]
  gi_wp2_with (refine ⟨trivial, ?_⟩; gi_at_call 23; refine (halves_in _ _ _ _ _).mono ?_; rintro e w' ⟨rfl, rfl⟩)
  have bS := (Boxed.new w 39 (.int .u32 s0)).alloc (.cells #[.slice A1 l1.length c1] 22)
  have bB := Boxed.new (w.alloc (.cells #[.int .u32 s0] 39)) 22 (.slice A1 l1.length c1)
  simp only [World.size_alloc] at bS bB
  have hB0 : Below w.heap.size w ((w.alloc (.cells #[.int .u32 s0] 39)).alloc (.cells #[.slice A1 l1.length c1] 22)) := ((Below.refl _ w).alloc (Nat.le_refl _) _).alloc (by simp) _
  refine wpIn_rangeFunc_ownF rfl (by omega) (gf := 26) (lb := #[.pointer (some ⟨w.heap.size + 1, 0, none⟩)]) rfl trivial (enters_of Try.func26 (by kernel_rfl) rfl)
    (halves_stops 5 (by omega) (w.heap.size + 1) w A1 c1 l1 hbs hr1 _ hB0 (by simp) bB.cell) belowK_t (belowK_b (by simp; omega)) (Below.refl _ _) (fun _ => rfl)
    (fun pre W => (W.cell? ⟨w.heap.size, 0, none⟩ = some (.int .u32 (stH s0 pre : Nat)) ∧ W.frozen? ⟨w.heap.size, 0, none⟩ = false) ∧ Below w.heap.size w W)
    (fun _ _ _ => False)
    (OwnFrom.and (Own.from (fun s A B row hs hg hr => ⟨cell_kept hs.1 hg hr, (frozen_kept hs.1 hg hr).trans hs.2⟩) _) (ownFrom_below (Nat.le_refl _) (by simp; omega)))
    (fun _ _ _ _ _ hs _ _ => hs)
    ⟨⟨bS.cell, bS.frozen⟩, hB0⟩
    (fun x : Nat => { tmps := #[.int .u32 n, .slice A1 l1.length c1, undef, undef, .int .u32 0, .pointer (some ⟨w.heap.size, 0, none⟩), .int .u32 ((x % 16 : Nat) : Int), .int .u32 n, .int .u32 s0, .slice A1 l1.length c1, .func (.func 26) #[] #[.pointer (some ⟨w.heap.size + 1, 0, none⟩)], .int .u32 ((x % 16 : Nat) : Int), undef, undef, undef, undef, undef, undef, undef], defers := [] }) ?assign ?body ?done ?stop
  case assign =>
    intro l x W K hK
    gi_wp2
    exact hK
  case body =>
    rintro l pre x W ⟨⟨hc, hf⟩, hB⟩ hlen
    have hlt := stH_lt pre hs1
    have hx4 := u32_xor_nat (stH s0 pre) (x % 16) hlt (by omega)
    have hlt2 : stH s0 pre ^^^ x % 16 < 4294967296 := Nat.xor_lt_two_pow (n := 32) hlt (by omega)
    have hsn := stH_snoc s0 pre x
    generalize hst : stH s0 pre = st at *
    generalize hnx : st ^^^ x % 16 = nx at *
    have HS := Lib.hid hsn
    clear hsn
    replace hx4 : bits .xor .u32 (st : Int) ((x : Int) % 16) = (nx : Int) := by simpa using hx4
    have hlt3 : w.heap.size < W.heap.size := World.block_lt_of_cell? W ⟨w.heap.size, 0, none⟩ hc
    have hcs : (W.setCell ⟨w.heap.size, 0, none⟩ (.int .u32 nx)).cell? ⟨w.heap.size, 0, none⟩ = some (.int .u32 nx) := World.cell?_setCell_same' _ _ _ (by rw [hc]; rfl)
    have hfs : (W.setCell ⟨w.heap.size, 0, none⟩ (.int .u32 nx)).frozen? ⟨w.heap.size, 0, none⟩ = false := by rw [World.frozen?_setCell]; exact hf
    have hss : (W.setCell ⟨w.heap.size, 0, none⟩ (.int .u32 nx)).heap.size = W.heap.size := by simp
    have hbs2 : Below w.heap.size W (W.setCell ⟨w.heap.size, 0, none⟩ (.int .u32 nx)) := (Below.refl w.heap.size W).setCell (p := ⟨w.heap.size, 0, none⟩) (Nat.le_refl _) _
    clear hnx hst
    gi_wp2

    refine ⟨trivial, ?_⟩
    refine (CallsIn.inRound l (callsIn_wide.2 (sums_sum_four.calls nx hlt2 _))).mono ?_
    rintro e w' ⟨rfl, hb⟩
    rw [hss] at hb
    have hc1 : w'.cell? ⟨w.heap.size, 0, none⟩ = some (.int .u32 nx) := (hb.cell (p := ⟨w.heap.size, 0, none⟩) hlt3).trans hcs
    have hf1 : w'.frozen? ⟨w.heap.size, 0, none⟩ = false := (hb.frozen (p := ⟨w.heap.size, 0, none⟩) hlt3).trans hfs
    clear hcs hfs
    gi_wp2
    have hko : KeepsOthers W w' := (KeepsOthers.setCell W ⟨w.heap.size, 0, none⟩ (.int .u32 nx)).trans ⟨hb.size, fun k o hk _ => (hb.block k (by rw [← hss]; exact (Array.getElem?_eq_some_iff.1 hk).1)).trans hk⟩
    have hbw : Below w.heap.size W w' := hbs2.trans (hb.mono hB.size)
    have hbw2 : Below w.heap.size W (w'.setCell ⟨w.heap.size, 0, none⟩ (.int .u32 (CrcPlain.steps 4 nx : Nat))) := hbw.setCell (p := ⟨w.heap.size, 0, none⟩) (Nat.le_refl _) _
    exact ⟨hko.trans (KeepsOthers.setCell _ _ _), hbw2, ⟨by show World.cell? _ _ = some (.int .u32 (stH s0 (pre ++ [x]) : Nat)); rw [HS.out]; exact World.cell?_setCell_same' _ _ _ (by rw [hc1]; rfl), by rw [World.frozen?_setCell]; exact hf1⟩, hB.trans hbw2⟩
  case done =>
    rintro D ys W hD rfl ⟨⟨hc, hf⟩, hB⟩ hK
    have hlt := stH_lt (halves l1) hs1
    have hn1 := not_u32 _ hlt
    generalize hst : stH s0 (halves l1) = st at *
    have HF1 := HF.out
    have HF := Lib.hid HF1
    clear HF1
    gi_wp2
    refine ⟨by simp, .inl ⟨_, _, rfl, run_takeDeferred hK, ?_⟩⟩
    exact ⟨_, results_tmp rfl _ _ _, by rw [HF.out]; rfl, hB.trans (belowK_b (w := w) (Nat.le_refl _) W D _ _ (by simp at hD; omega) hK rfl rfl)⟩
  case stop =>
    rintro D c pre W _ _ h _
    exact h.elim


end Go.Proofs.Ytedmambdlkogdaa.H
