/- Texts of the claim, packed: H21. -/
import Derived.Deep.RegionHeld3
import Derived.Laws.EntriesVeiled
import Derived.Lib.Hide
import Derived.Outline
import Derived.Test.YtncehlbhjoejhaaZRangesParts4
import Derived.Test.YtncehlbhjoejhaaZRangesParts5
import Derived.Test.YtncehlbhjoejhaaZRangesParts6
import Derived.Test.YtncehlbhjoejhaaZRangesParts7
import Derived.Test.YtncehlbhjoejhaaZRangesParts8
import Derived.Test.YtncehlbhjoejhaaZRangesParts9
import Derived.Test.YtncehlbhjoejhaaZRangesParts11
import Derived.Test.YtncehlbhjoejhaaZRangesParts12
import Derived.Test.YtncehlbhjoejhaaZRangesParts13
import Derived.Test.YtncehlbhjoejhaaZRangesParts15
section
-- Laid by this session's hprint.py, out of the kit's print.py and texts of the session. Not trusted: Lean checks it.
namespace Go.Proofs.Ytncehlbhjoejhaa.H
open Go.RowKit Go.Proofs.YtncehlbhjoejhaaW.PrintWords Go.Proofs.YtncehlbhjoejhaaW.PrintLast Go.Proofs.YtncehlbhjoejhaaW.PrintMore
attribute [local go_sem] max2_int min2_int max_two min_two max_three min_three max_four min_four   -- for this text's walks alone
set_option linter.unusedVariables false
set_option linter.unusedSimpArgs false

-- OVPART Derived.Lib.Hide Derived.Deep.RegionHeld3 Derived.Outline Derived.Laws.EntriesVeiled
/-! ### ranges_Of: function 12 -/
def nanV (x : S29) : Bool := isReal x.f0 x.f1 x.f2 && nanD x.f0 x.f1
def ofB (t0 t1 : Int) (x : S29) : Bool := (datum_Of.f x.f0 x.f1 x.f2 t0 t1).getD false
def aheadB (x y : S29) : Bool := match datum_Compare.f x.f0 x.f1 x.f2 y.f0 y.f1 y.f2 with | some (c, _) => decide (c < 0) | none => false
def noStats : Int × Bool × ByteArray × ByteArray := (0, false, ⟨#[]⟩, ⟨#[]⟩)
def ranges_Of.g (t0 t1 : Int) (l : List S29) (nulls : Int) : Option (Int × Bool × ByteArray × ByteArray) :=
  match l.filter (fun x => !nanV x) with
  | [] => some (nulls, false, ⟨#[]⟩, ⟨#[]⟩)
  | x :: xs => (ranges_Lay.f 10 (bestL aheadB x xs).f0 (zI (signOf t0) true (bestL aheadB x xs).f1) (bestL aheadB x xs).f2).bind fun la => (ranges_Lay.f 10 (bestL (fun a b => aheadB b a) x xs).f0 (zI (signOf t0) false (bestL (fun a b => aheadB b a) x xs).f1) (bestL (fun a b => aheadB b a) x xs).f2).bind fun lb => some (nulls, true, la, lb)
def ranges_Of.f (t0 t1 : Int) (l : List S29) (nulls : Int) : Option (Int × Bool × ByteArray × ByteArray) :=
  if l.length ≤ 1000000 then
    (if datum_Check.v t0 t1 ≠ 0 then some noStats else if nulls < 0 then some noStats else if nulls > 65536 then some noStats else if l.any (fun x => !ofB t0 t1 x) = true then some noStats else ranges_Of.g t0 t1 l nulls)
  else none
theorem of_some (k i : Int) (t : ByteArray) (t0 t1 : Int) : ∃ b, datum_Of.f k i t t0 t1 = some b := by
  unfold datum_Of.f datum_Check.f datum_fine.f
  simp only [Option.bind_some]
  repeat' split
  all_goals exact ⟨_, rfl⟩
theorem ordI_some (i j : Int) : ∃ r, datum_order_int64.f i j = some r := by
  unfold datum_order_int64.f cmp_Compare_int64.f cmp_isNaN_int64.f
  simp only [Option.bind_some]
  repeat' split
  all_goals first | exact ⟨_, rfl⟩ | (simp_all; done)
theorem compare_some (k i : Int) (t : ByteArray) (k2 i2 : Int) (t2 : ByteArray) : ∃ r, datum_Compare.f k i t k2 i2 t2 = some r := by
  unfold datum_Compare.f
  repeat' split
  all_goals first | exact ⟨_, rfl⟩ | exact ordI_some _ _ | (unfold datum_order_string.f; exact ⟨_, rfl⟩)
theorem check_kind {t0 t1 : Int} (h : datum_Check.v t0 t1 = 0) : (Lit.int .i64 t0).wf = true := by
  by_cases h0 : 0 ≤ t0 ∧ t0 ≤ 7
  · exact WalkArith.wf_i64 (by omega)
  · have hk : kOf t0 = none := by
      unfold kOf
      rw [if_neg (by omega), if_neg (by omega), if_neg (by omega), if_neg (by omega), if_neg (by omega), if_neg (by omega), if_neg (by omega)]
    unfold datum_Check.v at h
    rw [hk] at h
    exact absurd h (by simp)
structure St (w W : World) (t0 t1 : Int) : Prop where
  b0 : W.heap[w.heap.size]? = some (.cells #[.int .i64 t0, .int .i64 t1] 24 (0, 0))
  b1 : W.heap[w.heap.size + 1]? = some (.cells #[.int .i64 0, .bool false, .string ⟨#[]⟩, .string ⟨#[]⟩] 31 (0, 0))
  below : Below w.heap.size w W
theorem St.next {w W W' : World} {t0 t1 : Int} (h : St w W t0 t1) (hb : Below W.heap.size W W') : St w W' t0 t1 := ⟨blk_below h.b0 hb, blk_below h.b1 hb, below_step h.below hb⟩
theorem St.start (w : World) (t0 t1 : Int) : St w ((w.alloc (.cells #[.int .i64 t0, .int .i64 t1] 24)).alloc (.cells #[.int .i64 0, .bool false, .string ⟨#[]⟩, .string ⟨#[]⟩] 31)) t0 t1 := by
  refine ⟨blk_alloc (blk_new w _) _, ?_, below_alloc (below_alloc (Below.refl _ _) _) _⟩
  have h := blk_new (w.alloc (.cells #[.int .i64 t0, .int .i64 t1] 24)) (.cells #[.int .i64 0, .bool false, .string ⟨#[]⟩, .string ⟨#[]⟩] 31)
  rw [World.size_alloc] at h
  exact h
theorem St.cells {w W : World} {t0 t1 : Int} (h : St w W t0 t1) : W.cell? ⟨w.heap.size, 0, none⟩ = some (.int .i64 t0) ∧ W.cell? ⟨w.heap.size, 1, none⟩ = some (.int .i64 t1) ∧
    W.cell? ⟨w.heap.size + 1, 0, none⟩ = some (.int .i64 0) ∧ W.cell? ⟨w.heap.size + 1, 1, none⟩ = some (.bool false) ∧ W.cell? ⟨w.heap.size + 1, 2, none⟩ = some (.string ⟨#[]⟩) ∧ W.cell? ⟨w.heap.size + 1, 3, none⟩ = some (.string ⟨#[]⟩) ∧
    W.frozen? ⟨w.heap.size + 1, 0, none⟩ = false ∧ W.frozen? ⟨w.heap.size + 1, 1, none⟩ = false ∧ W.frozen? ⟨w.heap.size + 1, 2, none⟩ = false ∧ W.frozen? ⟨w.heap.size + 1, 3, none⟩ = false :=
  ⟨blk_cell h.b0 0, blk_cell h.b0 1, blk_cell h.b1 0, blk_cell h.b1 1, blk_cell h.b1 2, blk_cell h.b1 3, blk_frozen h.b1 0, blk_frozen h.b1 1, blk_frozen h.b1 2, blk_frozen h.b1 3⟩
theorem put4 {W : World} {b : Nat} {T : TypeId} {a0 a1 a2 a3 : Value} (h : W.heap[b]? = some (.cells #[a0, a1, a2, a3] T (0, 0))) (x y z u : Value) : ((((W.setCell ⟨b, 0, none⟩ x).setCell ⟨b, 1, none⟩ y).setCell ⟨b, 2, none⟩ z).setCell ⟨b, 3, none⟩ u).heap[b]? = some (.cells #[x, y, z, u] T (0, 0)) := blk_put (blk_put (blk_put (blk_put h 0 x rfl) 1 y rfl) 2 z rfl) 3 u rfl
theorem cellD_far {W : World} {p q : Addr} {x : Option Value} (h : W.cell? p = x) (hne : p.block ≠ q.block) (v : Value) : (W.setCell q v).cell? p = x := (World.cell?_of_block (Below.heap_setCell W q v p.block hne)).trans h
theorem undrew {W w' : World} (h : Below W.drew.heap.size W.drew w') : Below W.heap.size W w' := ⟨h.os, h.tape, h.output, h.size, h.block⟩
structure S9 (w W : World) (B : Nat) (t0 t1 nulls : Int) (hi : Value) : Prop where
  st : St w W t0 t1
  k8 : W.heap[B]? = some (.cells #[.int .i64 nulls, .bool true, hi, .string ⟨#[]⟩] 31 (0, 0))
  k9 : W.heap[B + 1]? = some (.cells #[.func (.func 35) #[] #[]] 68 (0, 0))
theorem S9.next {w W W' : World} {B : Nat} {t0 t1 nulls : Int} {hi : Value} (h : S9 w W B t0 t1 nulls hi) (hb : Below W.heap.size W W') : S9 w W' B t0 t1 nulls hi := ⟨h.st.next hb, blk_below h.k8 hb, blk_below h.k9 hb⟩
theorem S9.start {w W : World} {t0 t1 nulls : Int} (h : St w W t0 t1) : S9 w ((W.alloc (.cells #[.int .i64 nulls, .bool true, .string ⟨#[]⟩, .string ⟨#[]⟩] 31)).alloc (.cells #[.func (.func 35) #[] #[]] 68)) W.heap.size t0 t1 nulls (.string ⟨#[]⟩) := by
  refine ⟨h.next (below_alloc (below_alloc (Below.refl _ _) _) _), blk_alloc (blk_new W _) _, ?_⟩
  have h9 := blk_new (W.alloc (.cells #[.int .i64 nulls, .bool true, .string ⟨#[]⟩, .string ⟨#[]⟩] 31)) (.cells #[.func (.func 35) #[] #[]] 68)
  rw [World.size_alloc] at h9
  exact h9
set_option maxHeartbeats 4000000 in
set_option maxRecDepth 100000 in
theorem of1_calls (t0 t1 : Int) (x : S29) (b : Nat) (w : World) (h0 : w.cell? ⟨b, 0, none⟩ = some (.int .i64 t0)) (h1 : w.cell? ⟨b, 1, none⟩ = some (.int .i64 t1)) :
    Calls Try.prog 31 #[aggD x, .pointer (some ⟨b, 0, none⟩)] w fun e w' => e = .returned (.bool (!ofB t0 t1 x)) ∧ Below w.heap.size w w' := by
  have l0 := World.block_lt_of_cell? w _ h0
  simp only at l0
  have e0 : ∀ o, (w.alloc o).cell? ⟨b, 0, none⟩ = some (.int .i64 t0) := fun o => ((below_alloc (Below.refl _ _) o).cell (p := ⟨b, 0, none⟩) l0).trans h0
  have e1 : ∀ o, (w.alloc o).cell? ⟨b, 1, none⟩ = some (.int .i64 t1) := fun o => ((below_alloc (Below.refl _ _) o).cell (p := ⟨b, 1, none⟩) l0).trans h1
  have n0 : b ≠ w.heap.size := by omega
  obtain ⟨r, hr⟩ := of_some x.f0 x.f1 x.f2 t0 t1
  have hob : ofB t0 t1 x = r := by unfold ofB; rw [hr]; rfl
  rw [hob]
  have HR := Lib.hid hr
  clear h0 h1 hr hob
  go_enter Try.func31, Try.ntmps31
  go_wp2_with fail
  refine (datum_Of.calls _ _ _ _ _ r _ HR.out).mono ?_
  rintro e w1 ⟨rfl, hB⟩
  have hB' := below_step (below_alloc (Below.refl w.heap.size w) _) hB
  clear hB
  go_wp2_with fail
  go_ret
  exact ⟨rfl, hB'⟩
set_option maxHeartbeats 4000000 in
set_option maxRecDepth 100000 in
theorem of2_calls (x y : S29) (w : World) : Calls Try.prog 35 #[aggD x, aggD y] w fun e w' => e = .returned (.bool (aheadB x y)) ∧ Below w.heap.size w w' := by
  obtain ⟨⟨c, ok⟩, hr⟩ := compare_some x.f0 x.f1 x.f2 y.f0 y.f1 y.f2
  have hob : aheadB x y = decide (c < 0) := by unfold aheadB; rw [hr]
  rw [hob]
  have HR := Lib.hid hr
  clear hr hob
  go_enter Try.func35, Try.ntmps35
  go_wp2_with fail
  refine (datum_Compare.calls _ _ _ _ _ _ c ok _ HR.out).mono ?_
  rintro e w1 ⟨rfl, hB⟩
  have hB' := below_step (below_alloc (below_alloc (Below.refl w.heap.size w) _) _) hB
  clear hB
  go_wp2_with fail
  go_ret
  exact ⟨rfl, hB'⟩
set_option maxHeartbeats 4000000 in
set_option maxRecDepth 100000 in
theorem of3_calls (x y : S29) (b : Nat) (w : World) (h0 : w.cell? ⟨b, 0, none⟩ = some (.func (.func 35) #[] #[])) : Calls Try.prog 39 #[aggD x, aggD y, .pointer (some ⟨b, 0, none⟩)] w fun e w' => e = .returned (.bool (aheadB y x)) ∧ Below w.heap.size w w' := by
  have l0 := World.block_lt_of_cell? w _ h0
  simp only at l0
  have e0 : ∀ o o2, ((w.alloc o).alloc o2).cell? ⟨b, 0, none⟩ = some (.func (.func 35) #[] #[]) := fun o o2 => ((below_alloc (below_alloc (Below.refl _ _) o) o2).cell (p := ⟨b, 0, none⟩) l0).trans h0
  have n0 : b ≠ w.heap.size := by omega
  clear h0
  go_enter Try.func39, Try.ntmps39
  go_wp2_with fail
  refine (of2_calls y x _).mono ?_
  rintro e w1 ⟨rfl, hB⟩
  have hB' := below_step (below_alloc (below_alloc (Below.refl w.heap.size w) _) _) hB
  clear hB
  go_wp2_with fail
  go_ret
  exact ⟨rfl, hB'⟩
set_option maxHeartbeats 8000000 in
set_option maxRecDepth 100000 in
theorem ranges_Of.calls (a0_0 : Int) (a0_1 : Int) (A1 : Option Addr) (c1 : Nat) (l1 : List (S29)) (a2 : Int) (r1 : Int) (r2 : Bool) (r3 : ByteArray) (r4 : ByteArray) (w : World) (hr1 : Kd.C k29 w A1 l1.length l1) (hc1 : l1.length ≤ c1) (h : ranges_Of.f a0_0 a0_1 l1 a2 = some (r1, r2, r3, r4)) :
    Calls Try.prog 12 #[.agg #[.int .i64 a0_0, .int .i64 a0_1], .slice A1 l1.length c1, .int .i64 a2] w fun e w' => e = .returned (.agg #[.int .i64 r1, .bool r2, .string r3, .string r4]) ∧ Below w.heap.size w w' := by
  unfold ranges_Of.f at h
  split at h
  case isFalse => cases h
  case isTrue hlen =>
  have hS := St.start w a0_0 a0_1
  obtain ⟨W0, hW0⟩ : ∃ W0, W0 = (w.alloc (.cells #[.int .i64 a0_0, .int .i64 a0_1] 24)).alloc (.cells #[.int .i64 0, .bool false, .string ⟨#[]⟩, .string ⟨#[]⟩] 31) := ⟨_, rfl⟩
  rw [← hW0] at hS
  have HW0 := Lib.hid hW0
  clear hW0
  by_cases hchk : datum_Check.v a0_0 a0_1 ≠ 0
  · rw [if_pos hchk] at h
    simp only [noStats, Option.some.injEq, Prod.mk.injEq] at h
    obtain ⟨rfl, rfl, rfl, rfl⟩ := h
    have hk0 : (datum_Check.v a0_0 a0_1 != 0) = true := bne_iff_ne.mpr hchk
    clear hchk
    go_enter Try.func12, Try.ntmps12
    go_wp2_with fail
    rw [← HW0.out]
    refine (datum_Check.calls a0_0 a0_1 _ W0 rfl).mono ?_
    rintro e w1 ⟨rfl, hB1⟩
    have hS1 := hS.next hB1
    obtain ⟨hc0, hc1', hc2, hc3, hc4, hc5, hf2, hf3, hf4, hf5⟩ := hS1.cells
    clear hB1 hS
    go_wp2_with fail
    refine bodyPost_ret (results_cell_row rfl _ _ (w.heap.size + 1) 31 #[.int .i64 0, .bool false, .string ⟨#[]⟩, .string ⟨#[]⟩] (0, 0) _ rfl (put4 hS1.b1 _ _ _ _) Try.underlying31 rfl (by kernel_rfl)) rfl ?_
    exact ⟨rfl, (((hS1.below.setCell (p := ⟨w.heap.size + 1, 0, none⟩) (Nat.le_succ _) _).setCell (p := ⟨w.heap.size + 1, 1, none⟩) (Nat.le_succ _) _).setCell (p := ⟨w.heap.size + 1, 2, none⟩) (Nat.le_succ _) _).setCell (p := ⟨w.heap.size + 1, 3, none⟩) (Nat.le_succ _) _⟩
  rw [if_neg hchk] at h
  have hchk' : datum_Check.v a0_0 a0_1 = 0 := Decidable.not_not.mp hchk
  have hk0 : (datum_Check.v a0_0 a0_1 != 0) = false := bne_eq_false_iff_eq.mpr hchk'
  have hkw := check_kind hchk'
  clear hchk hchk'
  by_cases hn0 : a2 < 0
  · rw [if_pos hn0] at h
    simp only [noStats, Option.some.injEq, Prod.mk.injEq] at h
    obtain ⟨rfl, rfl, rfl, rfl⟩ := h
    have hn0b : decide (a2 < 0) = true := decide_eq_true hn0
    go_enter Try.func12, Try.ntmps12
    go_wp2_with fail
    rw [← HW0.out]
    refine (datum_Check.calls a0_0 a0_1 _ W0 rfl).mono ?_
    rintro e w1 ⟨rfl, hB1⟩
    have hS1 := hS.next hB1
    obtain ⟨hc0, hc1', hc2, hc3, hc4, hc5, hf2, hf3, hf4, hf5⟩ := hS1.cells
    clear hB1 hS
    go_wp2_with fail
    refine bodyPost_ret (results_cell_row rfl _ _ (w.heap.size + 1) 31 #[.int .i64 0, .bool false, .string ⟨#[]⟩, .string ⟨#[]⟩] (0, 0) _ rfl (put4 hS1.b1 _ _ _ _) Try.underlying31 rfl (by kernel_rfl)) rfl ?_
    exact ⟨rfl, (((hS1.below.setCell (p := ⟨w.heap.size + 1, 0, none⟩) (Nat.le_succ _) _).setCell (p := ⟨w.heap.size + 1, 1, none⟩) (Nat.le_succ _) _).setCell (p := ⟨w.heap.size + 1, 2, none⟩) (Nat.le_succ _) _).setCell (p := ⟨w.heap.size + 1, 3, none⟩) (Nat.le_succ _) _⟩
  rw [if_neg hn0] at h
  by_cases hn1 : a2 > 65536
  · rw [if_pos hn1] at h
    simp only [noStats, Option.some.injEq, Prod.mk.injEq] at h
    obtain ⟨rfl, rfl, rfl, rfl⟩ := h
    have hn0b : decide (a2 < 0) = false := decide_eq_false hn0
    have hn1b : decide (65536 < a2) = true := decide_eq_true hn1
    go_enter Try.func12, Try.ntmps12
    go_wp2_with fail
    rw [← HW0.out]
    refine (datum_Check.calls a0_0 a0_1 _ W0 rfl).mono ?_
    rintro e w1 ⟨rfl, hB1⟩
    have hS1 := hS.next hB1
    obtain ⟨hc0, hc1', hc2, hc3, hc4, hc5, hf2, hf3, hf4, hf5⟩ := hS1.cells
    clear hB1 hS
    go_wp2_with fail
    refine bodyPost_ret (results_cell_row rfl _ _ (w.heap.size + 1) 31 #[.int .i64 0, .bool false, .string ⟨#[]⟩, .string ⟨#[]⟩] (0, 0) _ rfl (put4 hS1.b1 _ _ _ _) Try.underlying31 rfl (by kernel_rfl)) rfl ?_
    exact ⟨rfl, (((hS1.below.setCell (p := ⟨w.heap.size + 1, 0, none⟩) (Nat.le_succ _) _).setCell (p := ⟨w.heap.size + 1, 1, none⟩) (Nat.le_succ _) _).setCell (p := ⟨w.heap.size + 1, 2, none⟩) (Nat.le_succ _) _).setCell (p := ⟨w.heap.size + 1, 3, none⟩) (Nat.le_succ _) _⟩
  rw [if_neg hn1] at h
  have hn0b : decide (a2 < 0) = false := decide_eq_false hn0
  have hn1b : decide (65536 < a2) = false := decide_eq_false hn1
  clear hn0 hn1
  by_cases hany : l1.any (fun x => !ofB a0_0 a0_1 x) = true
  · rw [if_pos hany] at h
    simp only [noStats, Option.some.injEq, Prod.mk.injEq] at h
    obtain ⟨rfl, rfl, rfl, rfl⟩ := h
    have HA := Lib.hid hany
    clear hany
    go_enter Try.func12, Try.ntmps12
    go_wp2_with fail
    rw [← HW0.out]
    refine (datum_Check.calls a0_0 a0_1 _ W0 rfl).mono ?_
    rintro e w1 ⟨rfl, hB1⟩
    have hS1 := hS.next hB1
    obtain ⟨hc0, hc1', hc2, hc3, hc4, hc5, hf2, hf3, hf4, hf5⟩ := hS1.cells
    clear hB1 hS
    go_wp2_with fail
    have hT : TellsD 31 #[.pointer (some ⟨w.heap.size, 0, none⟩)] l1 (fun x => !ofB a0_0 a0_1 x) w1 := ⟨fun x _ W hW => of1_calls a0_0 a0_1 x w.heap.size W (blk_cell (blk_below hS1.b0 hW) 0) (blk_cell (blk_below hS1.b0 hW) 1)⟩
    have hrw1 := Kd.C_below hr1 hS1.below
    refine (contains_func 31 _ Try.func31 (by kernel_rfl) rfl _ A1 c1 l1 _ w1 hrw1 hT (by omega)).mono ?_
    rintro e w2 ⟨rfl, hB2⟩
    rw [HA.out]
    have hS2 := hS1.next hB2
    have hrw2 := Kd.C_below hrw1 hB2
    clear hc0 hc1' hc2 hc3 hc4 hc5 hf2 hf3 hf4 hf5
    obtain ⟨hc0, hc1', hc2, hc3, hc4, hc5, hf2, hf3, hf4, hf5⟩ := hS2.cells
    clear hB2 hS1 hT hrw1
    go_wp2_with fail
    refine bodyPost_ret (results_cell_row rfl _ _ (w.heap.size + 1) 31 #[.int .i64 0, .bool false, .string ⟨#[]⟩, .string ⟨#[]⟩] (0, 0) _ rfl (put4 hS2.b1 _ _ _ _) Try.underlying31 rfl (by kernel_rfl)) rfl ?_
    exact ⟨rfl, (((hS2.below.setCell (p := ⟨w.heap.size + 1, 0, none⟩) (Nat.le_succ _) _).setCell (p := ⟨w.heap.size + 1, 1, none⟩) (Nat.le_succ _) _).setCell (p := ⟨w.heap.size + 1, 2, none⟩) (Nat.le_succ _) _).setCell (p := ⟨w.heap.size + 1, 3, none⟩) (Nat.le_succ _) _⟩
  rw [if_neg hany] at h
  have hany' : l1.any (fun x => !ofB a0_0 a0_1 x) = false := by simpa using hany
  have HA := Lib.hid hany'
  clear hany hany'
  go_enter Try.func12, Try.ntmps12
  go_wp2_with fail
  rw [← HW0.out]
  refine (datum_Check.calls a0_0 a0_1 _ W0 rfl).mono ?_
  rintro e w1 ⟨rfl, hB1⟩
  have hS1 := hS.next hB1
  obtain ⟨hc0, hc1', hc2, hc3, hc4, hc5, hf2, hf3, hf4, hf5⟩ := hS1.cells
  clear hB1 hS
  go_wp2_with fail
  have hT : TellsD 31 #[.pointer (some ⟨w.heap.size, 0, none⟩)] l1 (fun x => !ofB a0_0 a0_1 x) w1 := ⟨fun x _ W hW => of1_calls a0_0 a0_1 x w.heap.size W (blk_cell (blk_below hS1.b0 hW) 0) (blk_cell (blk_below hS1.b0 hW) 1)⟩
  have hrw1 := Kd.C_below hr1 hS1.below
  refine (contains_func 31 _ Try.func31 (by kernel_rfl) rfl _ A1 c1 l1 _ w1 hrw1 hT (by omega)).mono ?_
  rintro e w2 ⟨rfl, hB2⟩
  rw [HA.out]
  have hS2 := hS1.next hB2
  have hrw2 := Kd.C_below hrw1 hB2
  clear hc0 hc1' hc2 hc3 hc4 hc5 hf2 hf3 hf4 hf5
  obtain ⟨hc0, hc1', hc2, hc3, hc4, hc5, hf2, hf3, hf4, hf5⟩ := hS2.cells
  clear hB2 hS1 hT hrw1
  go_wp2_with fail
  refine (clone_datum A1 c1 l1 w2 hrw2 hc1 hlen).mono ?_
  rintro e w3 ⟨v3, rfl, hR3, hB3⟩
  obtain ⟨A3, c3, rfl, hcc3, _⟩ := Kd.R_reads hR3
  have hS3 := hS2.next hB3
  go_wp2_with fail
  refine (delete_func 34 _ Try.func34 (by kernel_rfl) rfl #[] w2.heap.size A3 c3 l1 nanV w3 hR3 hB3.size ⟨fun x _ W => datum_Nan.calls x.f0 x.f1 x.f2 _ W rfl⟩ hlen).mono ?_
  rintro e w4 ⟨A4, c4, rfl, hcc4, hC4, hB4⟩
  have hS4 := hS2.next (hB3.trans hB4)
  clear hc0 hc1' hc2 hc3 hc4 hc5 hf2 hf3 hf4 hf5
  have hS5 : ∀ o, St w (w4.alloc o) a0_0 a0_1 := fun o => hS4.next (below_alloc (Below.refl _ _) o)
  have hlt4 : w.heap.size + 1 < w4.heap.size := blk_lt hS4.b1
  clear hR3 hB3 hB4 hS3 hS2 hrw2
  unfold ranges_Of.g at h
  obtain ⟨fl, hfl⟩ : ∃ fl, fl = l1.filter (fun x => !nanV x) := ⟨_, rfl⟩
  have hfll : fl.length ≤ 1000000 := by rw [hfl]; exact Nat.le_trans (List.length_filter_le _ _) hlen
  rw [← hfl] at h hC4 hcc4 ⊢
  clear hfl
  cases fl with
  | nil =>
    simp only [Option.some.injEq, Prod.mk.injEq] at h
    obtain ⟨rfl, rfl, rfl, rfl⟩ := h
    obtain ⟨hc0, hc1', hc2, hc3, hc4, hc5, hf2, hf3, hf4, hf5⟩ := hS4.cells
    have hne1 : w.heap.size + 1 ≠ w4.heap.size := Nat.ne_of_lt hlt4
    have hne2 : w4.heap.size ≠ w.heap.size + 1 := Nat.ne_of_gt hlt4
    clear hS5
    go_wp2_with fail
    refine bodyPost_ret (results_cell_row rfl _ _ (w.heap.size + 1) 31 #[.int .i64 a2, .bool false, .string ⟨#[]⟩, .string ⟨#[]⟩] (0, 0) _ rfl (blk_alloc (put4 hS4.b1 _ _ _ _) _) Try.underlying31 rfl (by kernel_rfl)) rfl ?_
    exact ⟨rfl, below_alloc ((((hS4.below.setCell (p := ⟨w.heap.size + 1, 0, none⟩) (Nat.le_succ _) _).setCell (p := ⟨w.heap.size + 1, 1, none⟩) (Nat.le_succ _) _).setCell (p := ⟨w.heap.size + 1, 2, none⟩) (Nat.le_succ _) _).setCell (p := ⟨w.heap.size + 1, 3, none⟩) (Nat.le_succ _) _) _⟩
  | cons x xs =>
    simp only [List.length_cons] at hC4 hcc4 hfll ⊢
    have hl0 : (((xs.length + 1 : Nat) : Int) == 0) = false := beq_eq_false_iff_ne.mpr (by omega)
    have hl1 : (((xs.length : Int) + 1) == 0) = false := beq_eq_false_iff_ne.mpr (by omega)
    obtain ⟨hc0, hc1', hc2, hc3, hc4, hc5, hf2, hf3, hf4, hf5⟩ := hS4.cells
    go_wp2_with fail
    have h5 := S9.start (nulls := a2) hS4
    have h5b : Below w4.heap.size w4 ((w4.alloc (.cells #[.int .i64 a2, .bool true, .string ⟨#[]⟩, .string ⟨#[]⟩] 31)).alloc (.cells #[.func (.func 35) #[] #[]] 68)) := below_alloc (below_alloc (Below.refl _ _) _) _
    generalize ((w4.alloc (.cells #[.int .i64 a2, .bool true, .string ⟨#[]⟩, .string ⟨#[]⟩] 31)).alloc (.cells #[.func (.func 35) #[] #[]] 68)) = W5 at *
    have hC5 := Kd.C_below hC4 h5b
    have g50 := blk_cell h5.st.b0 0
    have g51 := blk_cell h5.k9 0
    have HC4 := Lib.hid hC4
    have H5B := Lib.hid h5b
    clear hc0 hc1' hc2 hc3 hc4 hc5 hf2 hf3 hf4 hf5 hC4 hS5 h5b hS4
    obtain ⟨la, hla, h⟩ := Option.bind_eq_some_iff.mp h
    obtain ⟨lb, hlb, h⟩ := Option.bind_eq_some_iff.mp h
    simp only [Option.some.injEq, Prod.mk.injEq] at h
    obtain ⟨rfl, rfl, rfl, rfl⟩ := h
    have hne0 : (⟨w.heap.size, 0, none⟩ : Addr).block ≠ (⟨w4.heap.size, 2, none⟩ : Addr).block := by show w.heap.size ≠ w4.heap.size; omega
    have hne9 : (⟨w4.heap.size + 1, 0, none⟩ : Addr).block ≠ (⟨w4.heap.size, 2, none⟩ : Addr).block := by show w4.heap.size + 1 ≠ w4.heap.size; omega
    have HLA := Lib.hid hla
    have HLB := Lib.hid hlb
    clear hla hlb
    go_region_held3 (fun W => W.cell? ⟨w.heap.size, 0, none⟩ = some (.int .i64 a0_0) ∧ W.cell? ⟨w4.heap.size + 1, 0, none⟩ = some (.func (.func 35) #[] #[])) (first | exact ⟨g50, g51⟩ | exact ⟨g60, g61⟩ | exact ⟨g70, g71⟩ | exact ⟨g80, g81⟩ | exact ⟨g90, g91⟩ | exact ⟨cellD_far g90 hne0 _, cellD_far g91 hne9 _⟩ | go_keep) (first | (go_at_call 37; refine (zeros_calls a0_0 true _ hkw).mono ?_; rintro e w6 ⟨p1, p3, rfl, hp1, hp3, hB6⟩; have hB6' := undrew hB6; have h6 := h5.next hB6'; have g60 := blk_cell h6.st.b0 0; have g61 := blk_cell h6.k9 0; have hC6 := Kd.C_below hC5 hB6') | (go_at_call 38; refine (best_func 35 _ Try.func35 (by kernel_rfl) rfl #[] A4 c4 x xs aheadB w6 hC6 hcc4 ⟨fun a b _ _ W _ => of2_calls a b W⟩ (by omega)).mono ?_; rintro e w7 ⟨rfl, hB7⟩; have h7 := h6.next hB7; have g70 := blk_cell h7.st.b0 0; have g71 := blk_cell h7.k9 0; have hp1' := pw_cell_below hB7 hp1; have hp3' := pw_cell_below hB7 hp3; have hC7 := Kd.C_below hC6 hB7) | (go_at_call 58; refine (zeros1_calls (signOf a0_0) true _ _ _ p1 p3 w7 hp1' hp3').mono ?_; rintro e w8 ⟨rfl, hB8⟩; have h8 := h7.next hB8; have g80 := blk_cell h8.st.b0 0; have g81 := blk_cell h8.k9 0; have hC8 := Kd.C_below hC7 hB8) | (go_at_call 20; refine (ranges_Lay.calls 10 _ _ _ la w8 HLA.out).mono ?_; rintro e w9 ⟨rfl, hB9⟩; have h9 := h8.next hB9; have g90 := blk_cell h9.st.b0 0; have g91 := blk_cell h9.k9 0; have hC9 := Kd.C_below hC8 hB9; have s92 := blk_cell h9.k8 2; have t92 := blk_frozen h9.k8 2))
    have hneA : w.heap.size ≠ w4.heap.size := hne0
    have hneB : w.heap.size + 1 ≠ w4.heap.size := Nat.ne_of_lt hlt4
    have hneC : w4.heap.size + 1 ≠ w4.heap.size := hne9
    have ha : S9 w (w9.setCell ⟨w4.heap.size, 2, none⟩ (.string la)) w4.heap.size a0_0 a0_1 a2 (.string la) :=
      ⟨⟨blk_far h9.st.b0 (p := ⟨w4.heap.size, 2, none⟩) hneA _, blk_far h9.st.b1 (p := ⟨w4.heap.size, 2, none⟩) hneB _, h9.st.below.setCell (p := ⟨w4.heap.size, 2, none⟩) (by show w.heap.size ≤ w4.heap.size; omega) _⟩, blk_put h9.k8 2 _ rfl, blk_far h9.k9 (p := ⟨w4.heap.size, 2, none⟩) hneC _⟩
    have hBa : Below w4.heap.size w9 (w9.setCell ⟨w4.heap.size, 2, none⟩ (.string la)) := (Below.refl _ _).setCell (p := ⟨w4.heap.size, 2, none⟩) (Nat.le_refl _) _
    have hCa : Kd.C k29 (w9.setCell ⟨w4.heap.size, 2, none⟩ (.string la)) A4 (xs.length + 1) (x :: xs) := Kd.C_below HC4.out ((below_step (below_step (below_step (below_step H5B.out hB6') hB7) hB8) hB9).trans hBa)
    generalize (w9.setCell ⟨w4.heap.size, 2, none⟩ (.string la)) = Wa at *
    have ga0 := blk_cell ha.st.b0 0
    have ga1 := blk_cell ha.k9 0
    clear g50 g51 g60 g61 g70 g71 g80 g81 g90 g91 s92 t92 hne0 hne9 h5 h6 h7 h8 h9 hp1 hp3 hp1' hp3' hB6 hB6' hB7 hB8 hB9 hC5 hC6 hC7 hC8 hC9
    go_wp2_with fail
    refine (zeros_calls a0_0 false _ hkw).mono ?_
    rintro e wb ⟨q1, q3, rfl, hq1, hq3, hBb⟩
    have hb := ha.next hBb
    have hCb := Kd.C_below hCa hBb
    clear ga0 ga1
    go_wp2_with fail
    refine (best_func 39 _ Try.func39 (by kernel_rfl) rfl #[.pointer (some ⟨w4.heap.size + 1, 0, none⟩)] A4 c4 x xs (fun a b => aheadB b a) wb hCb hcc4 ⟨fun a b _ _ W hW => of3_calls a b _ W (blk_cell (blk_below hb.k9 hW) 0)⟩ (by omega)).mono ?_
    rintro e wc ⟨rfl, hBc⟩
    have hc := hb.next hBc
    have hq1' := pw_cell_below hBc hq1
    have hq3' := pw_cell_below hBc hq3
    clear hq1 hq3 hCb hCa
    go_wp2_with fail
    refine (zeros1_calls (signOf a0_0) false _ _ _ q1 q3 wc hq1' hq3').mono ?_
    rintro e wd ⟨rfl, hBd⟩
    have hd := hc.next hBd
    clear hq1' hq3'
    go_wp2_with fail
    refine (ranges_Lay.calls 10 _ _ _ lb wd HLB.out).mono ?_
    rintro e we ⟨rfl, hBe⟩
    have he := hd.next hBe
    have s80 := blk_cell he.k8 0
    have s81 := blk_cell he.k8 1
    have s82 := blk_cell he.k8 2
    have s83 := blk_cell he.k8 3
    have f83 := blk_frozen he.k8 3
    obtain ⟨hc0, hc1', hc2, hc3, hc4, hc5, hf2, hf3, hf4, hf5⟩ := he.st.cells
    clear hc0 hc1'
    have hneD : w4.heap.size ≠ w.heap.size + 1 := Nat.ne_of_gt hlt4
    go_wp2_with fail
    refine bodyPost_ret (results_cell_row rfl _ _ (w.heap.size + 1) 31 #[.int .i64 a2, .bool true, .string la, .string lb] (0, 0) _ rfl (put4 (blk_far he.st.b1 (p := ⟨w4.heap.size, 3, none⟩) hneB _) _ _ _ _) Try.underlying31 rfl (by kernel_rfl)) rfl ?_
    exact ⟨rfl, ((((he.st.below.setCell (p := ⟨w4.heap.size, 3, none⟩) (by show w.heap.size ≤ w4.heap.size; omega) _).setCell (p := ⟨w.heap.size + 1, 0, none⟩) (Nat.le_succ _) _).setCell (p := ⟨w.heap.size + 1, 1, none⟩) (Nat.le_succ _) _).setCell (p := ⟨w.heap.size + 1, 2, none⟩) (Nat.le_succ _) _).setCell (p := ⟨w.heap.size + 1, 3, none⟩) (Nat.le_succ _) _⟩


end Go.Proofs.Ytncehlbhjoejhaa.H
end
