/- Texts of the claim, packed: H19. -/
import Derived.Lib.Hide
import Derived.Maps.Own
import Derived.Maps.OwnOps
import Derived.Test.YtncehlbhjoejhaaZRangesParts4
import Derived.Test.YtncehlbhjoejhaaZRangesParts5
section
-- Laid by this session's hprint.py, out of the kit's print.py and texts of the session. Not trusted: Lean checks it.
namespace Go.Proofs.Ytncehlbhjoejhaa.H
open Go.RowKit Go.Proofs.YtncehlbhjoejhaaW.PrintWords Go.Proofs.YtncehlbhjoejhaaW.PrintLast Go.Proofs.YtncehlbhjoejhaaW.PrintMore
attribute [local go_sem] max2_int min2_int max_two min_two max_three min_three max_four min_four   -- for this text's walks alone
set_option linter.unusedVariables false
set_option linter.unusedSimpArgs false

-- OVPART Derived.Maps.Own Derived.Maps.OwnOps Derived.Lib.Hide
/-! ### ranges_zeros: function 37 -/
/-- The bits of -0 of a kind of real numbers; 0: no real numbers. -/
def signOf (k : Int) : Int := if k = 4 then 2147483648 else if k = 5 then -9223372036854775808 else 0
def zI (sg : Int) (minus : Bool) (i : Int) : Int := if sg ≠ 0 ∧ (i = 0 ∨ i = sg) then (if minus then sg else 0) else i
def sD : DataW Unit := .map [(.int .i64 4, .lit (.int .i64 2147483648)), (.int .i64 5, .lit (.int .i64 (-9223372036854775808)))]
theorem sAt (k : Int) : sD.atKey (.int .i64 k) (.lit (.int .i64 0)) = .lit (.int .i64 (signOf k)) := by
  by_cases h4 : k = 4
  · subst h4; rfl
  by_cases h5 : k = 5
  · subst h5; rfl
  have e4 := Ne.symm h4
  have e5 := Ne.symm h5
  simp [sD, DataW.atKey, Lit.sameKey, e4, e5, signOf, h4, h5]
theorem sign_of {k c : Int} (h : sD.atKey (.int .i64 k) (.lit (.int .i64 0)) = .lit (.int .i64 (signOf k))) (h2 : ((((DataW.map (H := Unit) []).put (.int .i64 4) (.lit (.int .i64 2147483648))).put (.int .i64 5) (.lit (.int .i64 (-9223372036854775808))))).atKey (.int .i64 k) (.lit (.int .i64 0)) = .lit (.int .i64 c)) : c = signOf k := by
  have e : (((DataW.map (H := Unit) []).put (.int .i64 4) (.lit (.int .i64 2147483648))).put (.int .i64 5) (.lit (.int .i64 (-9223372036854775808)))) = sD := rfl
  rw [e, h] at h2
  injection h2 with h2
  injection h2 with _ h2
  exact h2.symm
theorem zero_i64 (w : World) : (zeroValue 2).run Try.prog w = .ok (.int .i64 0) w := by kernel_rfl
set_option maxHeartbeats 2000000 in
set_option maxRecDepth 100000 in
theorem zeros_calls (k : Int) (minus : Bool) (w : World) (hk : (Lit.int .i64 k).wf = true) : Calls Try.prog 37 #[.int .i64 k, .bool minus] w fun e w' => ∃ p1 p3 : Nat, e = .returned (.func (.func 58) #[] #[.pointer (some ⟨p1, 0, none⟩), .pointer (some ⟨p3, 0, none⟩)]) ∧
      w'.cell? ⟨p1, 0, none⟩ = some (.int .i64 (signOf k)) ∧ w'.cell? ⟨p3, 0, none⟩ = some (.bool minus) ∧ Below w.heap.size w w' := by
  have hmk := run_makeMap (P := Try.prog) 97 (w.alloc (.cells #[.bool minus] 4))
  have hown0 := World.ownsMap_made (w.alloc (.cells #[.bool minus] 4)) Try.prog 22 (plainElem (H := Unit) Try.prog 2)
  have hB0 : Below w.heap.size w ((w.alloc (.cells #[.bool minus] 4)).alloc (.map #[] 0)) := below_alloc (below_alloc (Below.refl _ _) _) _
  have hB1 : Below (w.heap.size + 1) ((w.alloc (.cells #[.bool minus] 4)).alloc (.map #[] 0)) ((w.alloc (.cells #[.bool minus] 4)).alloc (.map #[] 0)) := Below.refl _ _
  have hcm : ((w.alloc (.cells #[.bool minus] 4)).alloc (.map #[] 0)).cell? ⟨w.heap.size, 0, none⟩ = some (.bool minus) := ((below_alloc (Below.refl _ (w.alloc (.cells #[.bool minus] 4))) _).cell (p := ⟨w.heap.size, 0, none⟩) (by simp)).trans (by simp [go_sem])
  have hN0 : w.heap.size + 1 ≤ ((w.alloc (.cells #[.bool minus] 4)).alloc (.map #[] 0)).heap.size := by simp
  have hN1 : w.heap.size + 1 < ((w.alloc (.cells #[.bool minus] 4)).alloc (.map #[] 0)).heap.size := by simp
  simp only [World.size_alloc] at hmk hown0
  generalize hw1 : (w.alloc (.cells #[.bool minus] 4)).alloc (.map #[] 0) = w1 at hmk hown0 hB0 hB1 hcm hN0 hN1
  clear hw1
  have HB0 := Lib.hid hB0
  have HCM := Lib.hid hcm
  have HSAT := Lib.hid (sAt k)
  clear hB0 hcm
  go_enter Try.func37, Try.ntmps37
  go_wp2_with (first | (refine wpList_insert_own (H := Unit) _ rfl _ _ _ 97 rfl 22 2 kK Try.underlying97 (plainElem Try.prog 2) (w.heap.size + 1) _ _ rfl (by assumption) (by decide) _ _ _ rfl rfl (Go.Maps.keyOf_int_mk Try.underlying22 (by decide)) _ [] (plainElem_int Try.underlying2 (by decide)) w1 (w.heap.size + 1) (by assumption) (Nat.le_refl _) (by assumption) ?_; intro w' hown' hB' hN') | (at_lookup; refine wpList_lookup_own_int _ rfl _ _ 97 rfl 22 2 .i64 kK Try.underlying97 Try.underlying2 (zero_i64 _) (w.heap.size + 1) _ _ rfl (by assumption) _ _ rfl (Go.Maps.keyOf_int_mk Try.underlying22 hk) ?_; intro c hat hwc; have hcs : c = signOf k := sign_of HSAT.out hat; subst hcs; clear hat))
  have hBz : Below w.heap.size w w' := HB0.out.trans (hB'.mono (Nat.le_succ _))
  have h3 : (w'.alloc (.cells #[.int .i64 (signOf k)] 2)).cell? ⟨w.heap.size, 0, none⟩ = some (.bool minus) :=
    ((below_alloc (Below.refl _ w') _).cell (p := ⟨w.heap.size, 0, none⟩) (Nat.lt_of_lt_of_le (Nat.lt_of_succ_lt hN1) hB'.size)).trans ((hB'.cell (p := ⟨w.heap.size, 0, none⟩) (Nat.lt_succ_self _)).trans HCM.out)
  have h1 : (w'.alloc (.cells #[.int .i64 (signOf k)] 2)).cell? ⟨w'.heap.size, 0, none⟩ = some (.int .i64 (signOf k)) := by simp [go_sem]
  go_ret
  exact ⟨_, _, rfl, h1, h3, below_alloc hBz _⟩
abbrev aggI (k i : Int) (t : ByteArray) : Value := .agg #[.int .i64 k, .int .i64 i, .string t]
set_option maxHeartbeats 4000000 in
set_option maxRecDepth 100000 in
theorem zeros1_calls (sg : Int) (minus : Bool) (k i : Int) (t : ByteArray) (p1 p3 : Nat) (w : World) (h1 : w.cell? ⟨p1, 0, none⟩ = some (.int .i64 sg)) (h3 : w.cell? ⟨p3, 0, none⟩ = some (.bool minus)) :
    Calls Try.prog 58 #[aggI k i t, .pointer (some ⟨p1, 0, none⟩), .pointer (some ⟨p3, 0, none⟩)] w fun e w' => e = .returned (aggI k (zI sg minus i) t) ∧ Below w.heap.size w w' := by
  have l1 := World.block_lt_of_cell? w _ h1
  have l3 := World.block_lt_of_cell? w _ h3
  simp only at l1 l3
  have g1 : ∀ W, Below w.heap.size w W → W.cell? ⟨p1, 0, none⟩ = some (.int .i64 sg) := fun W hB => (hB.cell (p := ⟨p1, 0, none⟩) l1).trans h1
  have g3 : ∀ W, Below w.heap.size w W → W.cell? ⟨p3, 0, none⟩ = some (.bool minus) := fun W hB => (hB.cell (p := ⟨p3, 0, none⟩) l3).trans h3
  have e1 : ∀ o o2, ((w.alloc o).alloc o2).cell? ⟨p1, 0, none⟩ = some (.int .i64 sg) := fun o o2 => g1 _ (below_alloc (below_alloc (Below.refl _ _) o) o2)
  have e3 : ∀ o o2, ((w.alloc o).alloc o2).cell? ⟨p3, 0, none⟩ = some (.bool minus) := fun o o2 => g3 _ (below_alloc (below_alloc (Below.refl _ _) o) o2)
  have n1 : p1 ≠ w.heap.size := by omega
  have n3 : p3 ≠ w.heap.size := by omega
  have HB : ∀ o o2, Hid (Below w.heap.size w ((w.alloc o).alloc o2)) := fun o o2 => Lib.hid (below_alloc (below_alloc (Below.refl _ _) o) o2)
  clear g1 g3 h1 h3
  have hret : ∀ a b : Int, a = b → Ending.returned (aggI k a t) = Ending.returned (aggI k b t) := fun a b h => by rw [h]
  by_cases hs : sg = 0
  · subst hs
    go_enter Try.func58, Try.ntmps58
    go_wp2_with fail
    refine bodyPost_ret (v := aggI k i t) (by simp [results, Try.results58, go_sem]) rfl ⟨?_, (HB _ _).out⟩
    exact hret _ _ (by unfold zI; rw [if_neg (by simp)])
  · have hs0 : (sg == 0) = false := beq_eq_false_iff_ne.mpr hs
    have hs1 : (sg != 0) = true := bne_iff_ne.mpr hs
    have h0s : ((0 : Int) == sg) = false := beq_eq_false_iff_ne.mpr (Ne.symm hs)
    have HS := Lib.hid hs
    clear hs
    by_cases hi : i = 0
    · subst hi
      cases minus
      all_goals
        go_enter Try.func58, Try.ntmps58
        go_wp2_with fail
      · refine bodyPost_ret (v := aggI k 0 t) (by simp [results, Try.results58, go_sem]) rfl ⟨?_, (HB _ _).out⟩
        exact hret _ _ (by unfold zI; rw [if_pos ⟨HS.out, .inl rfl⟩]; rfl)
      · refine bodyPost_ret (v := aggI k sg t) (by simp [results, Try.results58, go_sem]) rfl ⟨?_, (HB _ _).out⟩
        exact hret _ _ (by unfold zI; rw [if_pos ⟨HS.out, .inl rfl⟩]; rfl)
    · have hi0 : (i == 0) = false := beq_eq_false_iff_ne.mpr hi
      by_cases hi2 : i = sg
      · subst hi2
        clear hi0
        cases minus
        all_goals
          go_enter Try.func58, Try.ntmps58
          go_wp2_with fail
        · refine bodyPost_ret (v := aggI k 0 t) (by simp [results, Try.results58, go_sem]) rfl ⟨?_, (HB _ _).out⟩
          exact hret _ _ (by unfold zI; rw [if_pos ⟨HS.out, .inr rfl⟩]; rfl)
        · refine bodyPost_ret (v := aggI k i t) (by simp [results, Try.results58, go_sem]) rfl ⟨?_, (HB _ _).out⟩
          exact hret _ _ (by unfold zI; rw [if_pos ⟨HS.out, .inr rfl⟩]; rfl)
      · have hi3 : (i == sg) = false := beq_eq_false_iff_ne.mpr hi2
        have HI := Lib.hid hi
        have HI2 := Lib.hid hi2
        clear hi hi2
        go_enter Try.func58, Try.ntmps58
        go_wp2_with fail
        refine bodyPost_ret (v := aggI k i t) (by simp [results, Try.results58, go_sem]) rfl ⟨?_, (HB _ _).out⟩
        exact hret _ _ (by unfold zI; rw [if_neg (fun h => h.2.elim HI.out HI2.out)])


end Go.Proofs.Ytncehlbhjoejhaa.H
end
