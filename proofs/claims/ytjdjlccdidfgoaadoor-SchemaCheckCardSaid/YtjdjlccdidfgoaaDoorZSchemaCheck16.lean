/- Texts of the claim, packed: PureSchemaCheck. -/
import Derived.Test.YtjdjlccdidfgoaaDoorZSchemaCheck14
import Derived.Test.YtjdjlccdidfgoaaDoorZSchemaCheck15
section
/- schema.Check says 'yes' just where the document's Check does, and else ErrArg; two schemas are told the same as the document tells; a copy is the same (SchemaCheck), at every two schemas. -/
namespace Go.Proofs.YtjdjlccdidfgoaaDoor.schemaCheck
open Go.RowKit Go.Proofs.YtjdjlccdidfgoaaDoorW.PrintWords Go.Proofs.YtjdjlccdidfgoaaDoorW.PrintLast Go.Proofs.YtjdjlccdidfgoaaDoorW.PrintMore Go.Proofs.YtjdjlccdidfgoaaDoor.H Go.Proofs.YtjdjlccdidfgoaaDoorO Go.Proofs.YtjdjlccdidfgoaaDoor.SckAid
set_option linter.unusedVariables false
set_option linter.unusedSimpArgs false
theorem rm_of : ∀ (n : Nat) (v : S62), GU62 n v → Rm v.f5 ∧ smallN v.f5 = true
  | 0, v, h => h.elim
  | n + 1, v, h => by
    obtain ⟨_, _, _, _, _, _, h1, h2⟩ := h
    refine ⟨Rm.mk _ (by omega) (fun x hx => (rm_of n x (h2 x hx)).1), ?_⟩
    have : ∀ l : List S62, (∀ x ∈ l, GU62 n x) → smallN l = true := by
      intro l
      induction l with
      | nil => intro _; rw [smallN]
      | cons x l ih =>
        intro hl
        have hx := hl x List.mem_cons_self
        have hr := (rm_of n x hx).2
        have hs : x.f0.size ≤ 140737488351232 := by
          cases n with
          | zero => exact hx.elim
          | succ n => exact hx.1
        rw [smallN_cons, decide_eq_true hs, hr, ih (fun y hy => hl y (List.mem_cons_of_mem _ hy))]
        rfl
    exact this _ h2
theorem rm_schema (y : S24) (h : G24 y) : Rm y.f1 ∧ smallN y.f1 = true := by
  obtain ⟨_, _, h1, h2⟩ := h
  have hv : ∀ x ∈ y.f1, Rm x.f5 ∧ smallN x.f5 = true ∧ x.f0.size ≤ 140737488351232 := fun x hx => by
    obtain ⟨n, hn⟩ := h2 x hx
    refine ⟨(rm_of n x hn).1, (rm_of n x hn).2, ?_⟩
    cases n with
    | zero => exact hn.elim
    | succ n => exact hn.1
  refine ⟨Rm.mk _ (by omega) (fun x hx => (hv x hx).1), ?_⟩
  have : ∀ l : List S62, (∀ x ∈ l, Rm x.f5 ∧ smallN x.f5 = true ∧ x.f0.size ≤ 140737488351232) → smallN l = true := by
    intro l
    induction l with
    | nil => intro _; rw [smallN]
    | cons x l ih =>
      intro hl
      have hx := hl x List.mem_cons_self
      rw [smallN_cons, decide_eq_true hx.2.2, hx.2.1, ih (fun y hy => hl y (List.mem_cons_of_mem _ hy))]
      rfl
  exact this _ hv
theorem pure_ : Pure := by
  intro y0 y1 g0 g1
  obtain ⟨r0, s0⟩ := rm_schema y0 g0
  obtain ⟨r1, s1⟩ := rm_schema y1 g1
  have hchk := check_ans y0.f0 r0.sm
  have hcopy : Ans (fun k => schema_Copy.f k y0.f0 y0.f1) (y0.f0, y0.f1) := by
    unfold schema_Copy.f
    exact Ans.bind (copy_ans r0) (Ans.const _)
  have hck : schema_Check.f y0.f0 y0.f1 = some (if checkB y0.f0 y0.f1 = true then 0 else 2) := by
    unfold schema_Check.f checkB
    rw [if_pos s0]
    congr 1
    by_cases h : nameB y0.f0 = true ∧ y0.f1.length ≠ 0 ∧ (fineN y0.f1 1 256 []).1 = true
    · rw [if_pos h, if_pos (by rw [h.1, h.2.2, decide_eq_true h.2.1]; rfl)]
    · rw [if_neg h, if_neg]
      intro hh
      simp only [Bool.and_eq_true, decide_eq_true_eq] at hh
      exact h ⟨hh.1, hh.2.1, hh.2.2⟩
  have hsame : ∀ a b : S24, schema_Same.f a.f0 a.f1 b.f0 b.f1 = marquetryref16_Same.f a.f0 a.f1 b.f0 b.f1 := fun a b => rfl
  obtain ⟨q, hq⟩ : ∃ q, marquetryref16_Same.f y0.f0 y0.f1 y1.f0 y1.f1 = some q := by
    unfold marquetryref16_Same.f
    split
    · exact ⟨_, rfl⟩
    · exact ⟨_, rfl⟩
  have hself : marquetryref16_Same.f y0.f0 y0.f1 y0.f0 y0.f1 = some true := by
    unfold marquetryref16_Same.f
    rw [if_pos rfl]
    show some (sameN y0.f1 y0.f1) = _
    rw [sameN_self _ _ (Nat.le_refl _)]
  obtain ⟨c0, hc0, -⟩ := count_all r0.sm
  obtain ⟨c1, hc1, -⟩ := count_all r1.sm
  have hfin : Ans (fun k => marquetrylaw16_SchemaCheck.f k y0.f0 y0.f1 y1.f0 y1.f1) true := by
    unfold marquetrylaw16_SchemaCheck.f
    refine Ans.bind hc0 ?_
    by_cases h0 : c0 > 300
    · exact Ans.pos h0 (Ans.const _)
    refine Ans.neg h0 (Ans.bind hc1 ?_)
    by_cases h1 : c1 > 300
    · exact Ans.pos h1 (Ans.const _)
    refine Ans.neg h1 ?_
    by_cases h2 : (y0.f0.size : Int) > 2000
    · exact Ans.pos h2 (Ans.const _)
    refine Ans.neg h2 (Ans.bind (f := fun _ => schema_Check.f y0.f0 y0.f1) ⟨0, fun _ _ => hck⟩ (Ans.bind hcopy (Ans.bind hchk (Ans.bind (f := fun _ => schema_Same.f y0.f0 y0.f1 y1.f0 y1.f1) ⟨0, fun _ _ => (hsame y0 y1).trans hq⟩ (Ans.bind (f := fun _ => marquetryref16_Same.f y0.f0 y0.f1 y1.f0 y1.f1) ⟨0, fun _ _ => hq⟩ (Ans.bind (f := fun _ => marquetryref16_Same.f y0.f0 y0.f1 y0.f0 y0.f1) ⟨0, fun _ _ => hself⟩ (Ans.pos ⟨?_, rfl, rfl⟩ (Ans.const _))))))))
    cases checkB y0.f0 y0.f1 with
    | true => exact .inl ⟨rfl, rfl⟩
    | false => exact .inr ⟨rfl, rfl⟩
  exact hfin.get
end Go.Proofs.YtjdjlccdidfgoaaDoor.schemaCheck
end
