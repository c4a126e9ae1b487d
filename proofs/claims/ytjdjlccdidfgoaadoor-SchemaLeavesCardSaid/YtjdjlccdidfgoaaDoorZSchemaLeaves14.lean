/- Texts of the claim, packed: H32. -/
import Derived.Lib.Hide
import Derived.RangeFuncBox
import Derived.Test.YtjdjlccdidfgoaaDoorZSchemaLeaves7
import Derived.Test.YtjdjlccdidfgoaaDoorZSchemaLeaves10
import Derived.Test.YtjdjlccdidfgoaaDoorZSchemaLeaves11
import Derived.Test.YtjdjlccdidfgoaaDoorZSchemaLeaves13
section
-- Laid by this session's hprint.py, out of the kit's print.py and texts of the session. Not trusted: Lean checks it.
namespace Go.Proofs.YtjdjlccdidfgoaaDoor.H
open Go.RowKit Go.Proofs.YtjdjlccdidfgoaaDoorW.PrintWords Go.Proofs.YtjdjlccdidfgoaaDoorW.PrintLast Go.Proofs.YtjdjlccdidfgoaaDoorW.PrintMore
attribute [local go_sem] max2_int min2_int max_two min_two max_three min_three max_four min_four   -- for this text's walks alone
set_option linter.unusedVariables false
set_option linter.unusedSimpArgs false

-- OVPART Derived.Lib.Hide Derived.RangeFuncBox
/-! ### schema_Leaves: function 18 -/
theorem fineN_num (n : Nat) : ∀ (l : List S62), numNs l ≤ n → ∀ (deep left : Int) (seen : List (List UInt8)), 0 ≤ left → (fineN l deep left seen).1 = true → (fineN l deep left seen).2 = left - numNs l ∧ 0 ≤ (fineN l deep left seen).2 := by
  induction n with
  | zero =>
    intro l hl
    cases l with
    | nil =>
      intro deep left seen h0 _
      rw [fineN]
      exact ⟨by simp [numNs], h0⟩
    | cons x xs => rw [numNs_cons] at hl; omega
  | succ n ih =>
    intro l
    induction l with
    | nil =>
      intro _ deep left seen h0 _
      rw [fineN]
      exact ⟨by simp [numNs], h0⟩
    | cons x xs ihx =>
      intro hl deep left seen h0 h
      rw [numNs_cons] at hl ⊢
      rw [fineN_cons] at h ⊢
      by_cases hb : left - 1 < 0 ∨ deep > 32 ∨ x.f0.data.toList ∈ seen ∨ okN x = false
      · rw [if_pos hb] at h
        cases h
      · rw [if_neg hb] at h ⊢
        by_cases hf : (fineN x.f5 (deep + 1) (left - 1) []).1 = false
        · rw [if_pos hf] at h
          cases h
        · rw [if_neg hf] at h ⊢
          have hl0 : ¬ left - 1 < 0 := fun h => hb (.inl h)
          obtain ⟨h1, h2⟩ := ih x.f5 (by omega) (deep + 1) (left - 1) [] (by omega) (by simpa using hf)
          obtain ⟨h3, h4⟩ := ihx (by omega) deep _ _ h2 h
          exact ⟨by rw [h3, h1]; omega, h4⟩
theorem Check_num {s : ByteArray} {l : List S62} (h : schema_Check.f s l = some 0) : numNs l ≤ 256 := by
  unfold schema_Check.f at h
  split at h
  case isFalse => cases h
  case isTrue =>
    by_cases hc : nameB s = true ∧ l.length ≠ 0 ∧ (fineN l 1 256 []).1 = true
    · obtain ⟨h1, h2⟩ := fineN_num _ l (Nat.le_refl _) 1 256 [] (by decide) hc.2.2
      omega
    · rw [if_neg hc] at h
      cases h
def schema_Leaves.f (a0_0 : ByteArray) (l0_1 : List S62) : Option (List S52) := (schema_Check.f a0_0 l0_1).bind fun e => if e ≠ 0 then some [] else some (leavesL l0_1 [] [] 0 0)
set_option maxRecDepth 100000 in
set_option maxHeartbeats 4000000 in
theorem schema_Leaves.calls (a0_0 : ByteArray) (A0_1 : Option Addr) (c0_1 : Nat) (l0_1 : List (S62)) (r : List (S52)) (w : World) (hr0_1 : Kd.C k62 w A0_1 l0_1.length l0_1) (hc0_1 : l0_1.length ≤ c0_1) (h : schema_Leaves.f a0_0 l0_1 = some r) (hT_ : Tabs_ w := by repeat (first | exact hT_ | exact Tabs_.below hT_ HB.out | exact Tabs_.below hT_ HB | with_reducible refine Tabs_.alloc ?_ _ | with_reducible refine Tabs_.drewN ?_ _ | with_reducible refine Tabs_.drew ?_)) :
    Calls Tryd.prog 18 #[.agg #[.string a0_0, .slice A0_1 l0_1.length c0_1]] w fun e w' => ∃ v0_ : Value, e = .returned (v0_) ∧ Kd.S k52 52 w' w.heap.size (fun _ => True) v0_ r ∧ Below w.heap.size w w' := by
  unfold schema_Leaves.f at h
  obtain ⟨e, he, h⟩ := Option.bind_eq_some_iff.mp h
  have hB0 : Below w.heap.size w (w.alloc (.cells #[.string a0_0, .slice A0_1 l0_1.length c0_1] 24)) := below_alloc (Below.refl _ _) _
  have hc0 := blk_cell (blk_new w (.cells #[.string a0_0, .slice A0_1 l0_1.length c0_1] 24)) 0
  have hc1 := blk_cell (blk_new w (.cells #[.string a0_0, .slice A0_1 l0_1.length c0_1] 24)) 1
  have hbk := blk_new w (.cells #[.string a0_0, .slice A0_1 l0_1.length c0_1] 24)
  have hr1 := Kd.C_below hr0_1 hB0
  have hT1 := Tabs_.below hT_ hB0
  go_enter Tryd.func18, Tryd.ntmps18
  go_wp2_with fail
  refine (schema_Check.calls a0_0 A0_1 c0_1 l0_1 e _ hr1 hc0_1 he hT1).mono ?_
  rintro e1 w2 ⟨rfl, hb2⟩
  have hB2 := below_step hB0 hb2
  have hr2 := Kd.C_below hr1 hb2
  have hbk2 := blk_below hbk hb2
  have hd1 := blk_cell hbk2 1
  clear hr1 hT1 hB0 hc0 hc1 hbk hb2 hr0_1
  by_cases h0 : e = 0
  · subst h0
    have hr : leavesL l0_1 [] [] 0 0 = r := by simpa using h
    subst hr
    have HNUM := Lib.hid (Check_num he)
    have HLEN := Lib.hid (Nat.le_trans (leavesL_len _ l0_1 (Nat.le_refl _) [] [] 0 0) HNUM.out)
    have HB2 := Lib.hid hB2
    have HR2 := Lib.hid hr2
    have HC := Lib.hid hc0_1
    clear h he hB2 hr2 hbk2 hT_ hc0_1
    go_wp2_with fail
    refine (callsIn_wide.1 (leaves_in 6 A0_1 l0_1.length c0_1 _ _ _ _ _ _ w2)).mono ?_
    rintro e3 w3 ⟨rfl, hw3⟩
    have hal1 := below_alloc (Below.refl w2.heap.size w2) (.cells #[.slice A0_1 l0_1.length c0_1] 22)
    have hB3 : Below w2.heap.size w2 w3 := by rw [hw3]; exact below_alloc hal1 _
    have hk1 : w3.heap[w2.heap.size]? = some (.cells #[.slice A0_1 l0_1.length c0_1] 22 (0, 0)) := by rw [hw3]; exact blk_alloc (blk_new w2 _) _
    have hk2 : w3.heap[w2.heap.size + 1]? = some (.cells #[.slice none 0 0, .slice none 0 0, .int .i64 0, .int .i64 0, .int .i64 0, .int .i64 0] 52 (0, 0)) := by
      rw [hw3]
      have := blk_new (w2.alloc (.cells #[.slice A0_1 l0_1.length c0_1] 22)) (.cells #[.slice none 0 0, .slice none 0 0, .int .i64 0, .int .i64 0, .int .i64 0, .int .i64 0] 52)
      rwa [World.size_alloc] at this
    clear hw3 hal1 hd1
    have HS := Lib.hid (fun (W7 : World) (hb : Below w3.heap.size w3 W7) (hs : W7.heap.size = w3.heap.size + 1) (hx : Boxed W7 w3.heap.size 45 (.slice none 0 0)) => by
      have hrow : ∀ A n c, W7.cell? ⟨w3.heap.size, 0, none⟩ ≠ some (.slice (some A) n c) := fun A n c h => by
        rw [hx.cell] at h
        cases h
      have hfree : ∀ k, k < w3.heap.size → Free_ w3.heap.size W7 k := fun k hk => ⟨Nat.ne_of_lt hk, ⟨_, hx, rfl⟩, fun A n c h => absurd h (hrow A n c)⟩
      exact lv_all (numNs l0_1 + 1) l0_1 [] [] 0 0 (Nat.lt_succ_self _) (Int.le_refl _) (Int.le_refl _) (by have := HNUM.out; omega) (by have := HNUM.out; omega) (by have := HNUM.out; simp only [List.length_nil]; omega) (by have := HNUM.out; simp only [List.length_nil]; omega)
        5 w3.heap.size w3.heap.size w3.heap.size w3 W7 A0_1 c0_1 w2.heap.size (w2.heap.size + 1) (.slice none 0 0) (.slice none 0 0) (.int .i64 0) (.int .i64 0) (Kd.C_below HR2.out hB3) hb (Nat.le_refl _) (by omega) (by omega)
        ⟨⟨_, hx, rfl⟩, fun A n c h => absurd h (hrow A n c)⟩ (blk_below hk1 hb) (hfree _ (blk_lt hk1)) (blk_below hk2 hb) (hfree _ (blk_lt hk2))
        ⟨World.ownsRow_nil _ _ _ _, fun k hk => by simp [Value.ownBlock] at hk⟩ ⟨World.ownsRow_nil _ _ _ _, fun k hk => by simp [Value.ownBlock] at hk⟩)
    clear hk1 hk2
    go_wp2_with fail
    refine (collect_leaf 59 _ _ Tryd.func59 (by kernel_rfl) rfl (leavesL l0_1 [] [] 0 0) (by have := HLEN.out; omega) w3 HS.out).mono ?_
    rintro e4 w4 ⟨v, rfl, hS4, hb4⟩
    have HE := Lib.hid (And.intro (Kd.S_lower hS4 (Nat.le_trans HB2.out.size hB3.size)) (below_step (below_step HB2.out hB3) hb4))
    clear hS4 hb4
    go_wp2_with fail
    go_ret
    exact ⟨v, rfl, HE.out.1, HE.out.2⟩
  · have hr : ([] : List S52) = r := by
      rw [if_pos h0] at h
      exact Option.some.inj h
    subst hr
    have HB2 := Lib.hid hB2
    have hne : decide (e = 0) = false := decide_eq_false h0
    clear h he hB2 hr2 hbk2 hT_ hc0_1
    go_wp2_with fail
    go_ret
    exact ⟨_, rfl, Kd.S_nil _ _ _ _ _, HB2.out⟩


end Go.Proofs.YtjdjlccdidfgoaaDoor.H
end
