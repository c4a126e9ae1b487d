/- Texts of the claim, packed: PureRangesMay. -/
import Derived.Test.YtncehlbhjoejhaaZRangesMay20
import Derived.Test.YtncehlbhjoejhaaZRangesMay23
import Derived.Test.YtncehlbhjoejhaaZRangesMay26
import Derived.Test.YtncehlbhjoejhaaZRangesMay28
section
/- Whether a condition may be true by what is known is what the document says (RangesMay), at every condition, type, rows and everything known. -/
namespace Go.Proofs.Ytncehlbhjoejhaa.rangesMay
open Go.RowKit Go.Proofs.YtncehlbhjoejhaaW.PrintWords Go.Proofs.YtncehlbhjoejhaaW.PrintLast Go.Proofs.YtncehlbhjoejhaaW.PrintMore Go.Proofs.Ytncehlbhjoejhaa.H Go.Proofs.YtncehlbhjoejhaaO Go.Proofs.Ytncehlbhjoejhaa.RngOrd
set_option linter.unusedVariables false
set_option linter.unusedSimpArgs false
theorem j2_no (n : Nat) (op k i : Int) (t : ByteArray) (t0 t1 m : Int) (has : Bool) (least most : ByteArray) : marquetryref22_May.j2 (n + 1) op true k i t t0 t1 m has least most = some false := by
  simp only [marquetryref22_May.j2]
  rw [if_pos trivial]
theorem j2_at (op k i : Int) (t : ByteArray) (t0 t1 m : Int) (has : Bool) (least most : ByteArray) (hi : inR i) (hl : least.size ≤ 10000) (hm : most.size ≤ 10000) (hop : ¬ (op < 6 ∨ op > 11)) :
    marquetryref22_May.j2 20008 op false k i t t0 t1 m has least most = some (cV op (cv (readV t0 t1 least).1 (readV t0 t1 least).2.1 (readV t0 t1 least).2.2.1 k i t).1 (cv (readV t0 t1 most).1 (readV t0 t1 most).2.1 (readV t0 t1 most).2.2.1 k i t).1) := by
  simp only [marquetryref22_May.j2]
  have r1 := readV_range t0 t1 least
  have r2 := readV_range t0 t1 most
  rw [if_neg (by decide), refRead_at _ _ _ hl (by decide), refRead_at _ _ _ hm (by decide)]
  simp only [Option.bind_some]
  rw [cmp_at _ _ _ _ _ _ r1.1 hi (by decide) (by omega), cmp_at _ _ _ _ _ _ r2.1 hi (by decide) (by omega)]
  simp only [Option.bind_some]
  generalize (cv (readV t0 t1 least).1 (readV t0 t1 least).2.1 (readV t0 t1 least).2.2.1 k i t).1 = a
  generalize (cv (readV t0 t1 most).1 (readV t0 t1 most).2.1 (readV t0 t1 most).2.2.1 k i t).1 = b
  unfold cV
  by_cases h6 : op = 6
  · subst h6
    by_cases ha : a ≤ 0 <;> simp [ha]
  by_cases h7 : op = 7
  · subst h7
    by_cases ha : a = 0 <;> simp [ha]
  by_cases h8 : op = 8
  · subst h8; simp
  by_cases h9 : op = 9
  · subst h9; simp
  by_cases h10 : op = 10
  · subst h10; simp
  simp [h6, h7, h8, h9, h10]
theorem may_22 (op k i : Int) (t : ByteArray) (t0 t1 rows n : Int) (has : Bool) (least most : ByteArray) (hi : inR i) (ht : t.size ≤ 10000) (hl : least.size ≤ 10000) (hm : most.size ≤ 10000) :
    marquetryref22_May.f 20010 op k i t t0 t1 rows n has least most = some (mayV op k i t t0 t1 rows n has least most) := by
  unfold marquetryref22_May.f mayV
  rw [refCheck22_at _ _ _ _ _ _ hl hm (by decide)]
  simp only [Option.bind_some]
  have hj : marquetryref22_May.j0 20010 op rows true k i t t0 t1 n has least most = some true := by
    simp only [marquetryref22_May.j0]
    rw [if_pos trivial]
  by_cases h1 : checkV t0 t1 n has least most = 0
  · rw [if_pos h1, if_neg (not_not_intro h1)]
    by_cases h2 : rows < 0
    · rw [decide_eq_true h2, if_pos h2, hj]
    rw [decide_eq_false h2, if_neg h2]
    simp only [marquetryref22_May.j0]
    rw [if_neg (by decide)]
    by_cases h3 : op = 4
    · rw [if_pos h3, if_pos h3]
    rw [if_neg h3, if_neg h3]
    by_cases h4 : op = 5
    · rw [if_pos h4, if_pos h4]
    rw [if_neg h4, if_neg h4]
    have hj1 : marquetryref22_May.j1 20009 op rows true k i t t0 t1 n has least most = some true := by
      simp only [marquetryref22_May.j1]
      rw [if_pos trivial]
    by_cases h5 : op < 6
    · rw [if_pos h5, if_pos (.inl h5), hj1]
    rw [if_neg h5]
    by_cases h6 : op > 11
    · rw [decide_eq_true h6, if_pos (.inr h6), hj1]
    rw [decide_eq_false h6, if_neg (by omega)]
    simp only [marquetryref22_May.j1]
    rw [if_neg (by decide), refOf_at _ _ _ _ _ hi (by decide)]
    simp only [Option.bind_some]
    by_cases h7 : ofB t0 t1 ⟨k, i, t⟩ = true
    · rw [if_pos h7, if_neg (show ¬ (ofB t0 t1 ⟨k, i, t⟩ = false) by rw [h7]; decide)]
      unfold marquetryref22_placed.f
      rw [cmp_at _ _ _ _ _ _ hi hi (by decide) (by omega)]
      simp only [Option.bind_some]
      have hp : (cv k i t k i t).2 = okD k i t := by
        unfold cv
        cases okD k i t <;> simp
      rw [hp]
      cases okD k i t with
      | false => rw [if_neg (by decide), if_pos rfl, j2_no]
      | true =>
        rw [if_pos (rfl : true = true), if_neg (show ¬ (true = false) by decide)]
        cases has with
        | false => rw [if_neg (show ¬ (false = true) by decide), if_pos (rfl : false = false), j2_no]
        | true =>
          rw [if_pos (rfl : true = true), if_neg (show ¬ (true = false) by decide)]
          by_cases h8 : rows ≤ n
          · rw [decide_eq_true h8, if_pos h8, j2_no]
          · rw [decide_eq_false h8, if_neg h8]
            exact j2_at op k i t t0 t1 n true least most hi hl hm (by omega)
    · rw [if_neg h7, if_pos (by simpa using h7), j2_no]
  · rw [if_neg h1, if_pos h1, hj]
theorem pure_ : Pure := by
  intro y0 y1 y2 h0 h1 h2
  obtain ⟨op, ⟨k, i, t⟩, rows⟩ := y0
  obtain ⟨t0, t1⟩ := y1
  obtain ⟨n, has, least, most⟩ := y2
  obtain ⟨_, _, hl, hm⟩ := h2
  simp only at hl hm
  obtain ⟨_, ⟨_, hi, ht⟩, _⟩ := h0
  have hi2 : inR i := by unfold inR; simpa [Lit.wf, IntKind.min, IntKind.max, IntKind.signed, IntKind.bits] using hi
  simp only at ht
  refine ⟨20010, ?_⟩
  unfold marquetrylaw22_RangesMay.f
  simp only
  split
  · rfl
  · rename_i hn
    have hs : least.size ≤ 10000 ∧ most.size ≤ 10000 ∧ t.size ≤ 10000 := by unfold wrap64 at hn; omega
    rw [may_f _ _ _ _ _ _ _ _ _ _ _ hl hm, may_22 _ _ _ _ _ _ _ _ _ _ _ hi2 hs.2.2 hs.1 hs.2.1]
    simp [marquetrylaw22_works.f]
end Go.Proofs.Ytncehlbhjoejhaa.rangesMay
end
