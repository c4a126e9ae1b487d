/- Two data are the same just if all three fields are; two lists, if each is; a list is the same as itself (DatumSame), at every two lists. -/
import Derived.Test.YtidhenogfblolaaSayDatumSame
namespace Go.Proofs.Ytidhenogfblolaa.datumSame
open Go.RowKit Go.Proofs.YtidhenogfblolaaW.PrintWords Go.Proofs.YtidhenogfblolaaW.PrintLast Go.Proofs.YtidhenogfblolaaW.PrintMore Go.Proofs.Ytidhenogfblolaa.H Go.Proofs.YtidhenogfblolaaO
set_option linter.unusedVariables false
theorem bind_of {α β : Type} {o : Option α} {x : α} (h : o = some x) (g : α → Option β) : o.bind g = g x := by rw [h]; rfl
theorem wrap_next (i : Nat) (h : i < 1000000) : wrap64 ((i : Int) + 1) = ((i + 1 : Nat) : Int) := by
  unfold wrap64
  omega
theorem eqAll_refl : ∀ l : List S31, eqAll l l = true
  | [] => rfl
  | x :: xs => by
    unfold eqAll
    rw [eqAll_refl xs]
    simp [sameD]
theorem ref_loop (l m : List S31) (hlm : l.length = m.length) (h50 : l.length ≤ 50) : ∀ d i K : Nat, l.length = i + d → d < K → marquetryref09_SameAll.l0 K l m (i : Int) = some (eqAll (l.drop i) (m.drop i))
  | 0, i, 0, _, h => absurd h (by omega)
  | 0, i, K + 1, hi, _ => by
    simp only [marquetryref09_SameAll.l0]
    rw [if_neg (by omega : ¬ (i : Int) < (l.length : Int))]
    have h1 : l.length ≤ i := by omega
    have h2 : m.length ≤ i := by omega
    rw [List.drop_eq_nil_of_le h1, List.drop_eq_nil_of_le h2]
    rfl
  | d + 1, i, 0, _, h => absurd h (by omega)
  | d + 1, i, K + 1, hi, hK => by
    have ih := ref_loop l m hlm h50 d (i + 1) K (by omega) (by omega)
    have hs := eqAll_at l m i (by omega) hlm
    simp only [marquetryref09_SameAll.l0]
    rw [if_pos (by omega : (i : Int) < (l.length : Int)), if_pos (by omega : 0 ≤ (i : Int)), if_pos (by omega : (i : Int) < (m.length : Int)), wrap_next i (by omega), ih, hs]
    unfold sameD
    cases (rd_T31 l (i : Int)).f0 == (rd_T31 m (i : Int)).f0 <;> cases (rd_T31 l (i : Int)).f1 == (rd_T31 m (i : Int)).f1 <;> cases (rd_T31 l (i : Int)).f2.toList == (rd_T31 m (i : Int)).f2.toList <;> rfl
theorem ref_all (l m : List S31) (h50 : l.length ≤ 50) (K : Nat) (hK : 50 < K) : marquetryref09_SameAll.f K l m = some (eqAll l m) := by
  unfold marquetryref09_SameAll.f
  by_cases hl : l.length = m.length
  · rw [if_pos (by omega)]
    exact ref_loop l m hl h50 l.length 0 K (by omega) (by omega)
  · rw [if_neg (by omega), eqAll_len l m hl]
theorem all_f (l m : List S31) (h50 : l.length ≤ 50) : datum_SameAll.f l m = some (eqAll l m) := by
  unfold datum_SameAll.f
  rw [if_pos (by omega)]
theorem law_loop (l m : List S31) (h50 : l.length ≤ 50) (h51 : m.length ≤ 50) : ∀ d i K : Nat, l.length = i + d → i ≤ m.length → 2 * d + 60 < K → marquetrylaw09_DatumSame.l0 K l m (i : Int) = some true := by
  intro d
  induction d with
  | zero =>
    intro i K hi hm hK
    obtain ⟨K', rfl⟩ : ∃ K', K = K' + 2 := ⟨K - 2, by omega⟩
    simp only [marquetrylaw09_DatumSame.l0, marquetrylaw09_DatumSame.j2]
    rw [if_neg (by omega : ¬ (i : Int) < (l.length : Int)), if_neg (by decide), bind_of (all_f l m h50), bind_of (ref_all l m h50 K' (by omega)), bind_of (all_f l l h50), eqAll_refl]
    simp
  | succ d ih =>
    intro i K hi hm hK
    obtain ⟨K', rfl⟩ : ∃ K', K = K' + 2 := ⟨K - 2, by omega⟩
    simp only [marquetrylaw09_DatumSame.l0, marquetrylaw09_DatumSame.j2]
    rw [if_pos (by omega : (i : Int) < (l.length : Int))]
    by_cases h : i < m.length
    · rw [decide_eq_true (by omega : (i : Int) < (m.length : Int)), if_pos rfl, if_pos (by omega : 0 ≤ (i : Int)), if_pos (by omega : (i : Int) < (l.length : Int)), if_pos (by omega : (i : Int) < (m.length : Int))]
      rw [bind_of (same_f (rd_T31 l (i : Int)) (rd_T31 m (i : Int))), wrap_next i (by omega), ih (i + 1) K' (by omega) (by omega) (by omega)]
      unfold sameD
      cases (rd_T31 l (i : Int)).f0 == (rd_T31 m (i : Int)).f0 <;> cases (rd_T31 l (i : Int)).f1 == (rd_T31 m (i : Int)).f1 <;> cases (rd_T31 l (i : Int)).f2.toList == (rd_T31 m (i : Int)).f2.toList <;> rfl
    · rw [decide_eq_false (by omega : ¬ (i : Int) < (m.length : Int)), if_neg (by decide), bind_of (all_f l m h50), bind_of (ref_all l m h50 K' (by omega)), bind_of (all_f l l h50), eqAll_refl]
      simp
theorem pure_ : Pure := by
  intro l m _ _
  refine ⟨400, ?_⟩
  unfold marquetrylaw09_DatumSame.f
  by_cases h1 : (l.length : Int) > 50
  · rw [if_pos h1]
    simp only [marquetrylaw09_DatumSame.j0]
    rfl
  · rw [if_neg h1]
    by_cases h2 : (m.length : Int) > 50
    · simp only [marquetrylaw09_DatumSame.j0]
      rw [if_pos (decide_eq_true h2)]
    · simp only [marquetrylaw09_DatumSame.j0]
      rw [decide_eq_false h2, if_neg (by decide)]
      exact law_loop l m (by omega) (by omega) l.length 0 399 (by omega) (by omega) (by omega)
end Go.Proofs.Ytidhenogfblolaa.datumSame
