/- Texts of the claim, packed: PureRecordsCheck. -/
import Derived.Test.YtnbmgljcnbhinaaDoorZRecordsCheck18
import Derived.Test.YtnbmgljcnbhinaaDoorZRecordsCheck21
section
/- records.Check answers what the document's Check answers (RecordsCheck), at every schema and all records. -/
namespace Go.Proofs.YtnbmgljcnbhinaaDoor.recordsCheck
open Go.RowKit Go.Proofs.YtnbmgljcnbhinaaDoorW.PrintWords Go.Proofs.YtnbmgljcnbhinaaDoorW.PrintLast Go.Proofs.YtnbmgljcnbhinaaDoorW.PrintMore Go.Proofs.YtnbmgljcnbhinaaDoor.H Go.Proofs.YtnbmgljcnbhinaaDoorO
open Go.Proofs.YtnbmgljcnbhinaaDoor.SckAid (Ans Ans.const Ans.bind Ans.pos Ans.neg Ans.get Rm)
open Go.Proofs.YtnbmgljcnbhinaaDoor.RckAid (Vl heavy_ans ref_check_ans own_check_ans)
set_option linter.unusedVariables false
set_option linter.unusedSimpArgs false
theorem rm_of : ∀ (n : Nat) (v : S64), GU64 n v → Rm v.f5 ∧ smallN v.f5 = true
  | 0, v, h => h.elim
  | n + 1, v, h => by
    obtain ⟨_, _, _, _, _, _, h1, h2⟩ := h
    refine ⟨Rm.mk _ (by omega) (fun x hx => (rm_of n x (h2 x hx)).1), ?_⟩
    have : ∀ l : List S64, (∀ x ∈ l, GU64 n x) → smallN l = true := by
      intro l
      induction l with
      | nil => intro _; rw [smallN]
      | cons x l ih =>
        intro hl
        have hx := hl x List.mem_cons_self
        have hr := (rm_of n x hx).2
        have hs : x.f0.size ≤ 140737488351232 := by
          cases n with
          | zero => exact hx.elim
          | succ n => exact hx.1
        rw [smallN_cons, decide_eq_true hs, hr, ih (fun y hy => hl y (List.mem_cons_of_mem _ hy))]
        rfl
    exact this _ h2
theorem rm_schema (y : S24) (h : G24 y) : Rm y.f1 ∧ smallN y.f1 = true := by
  obtain ⟨_, _, h1, h2⟩ := h
  have hv : ∀ x ∈ y.f1, Rm x.f5 ∧ smallN x.f5 = true ∧ x.f0.size ≤ 140737488351232 := fun x hx => by
    obtain ⟨n, hn⟩ := h2 x hx
    refine ⟨(rm_of n x hn).1, (rm_of n x hn).2, ?_⟩
    cases n with
    | zero => exact hn.elim
    | succ n => exact hn.1
  refine ⟨Rm.mk _ (by omega) (fun x hx => (hv x hx).1), ?_⟩
  have : ∀ l : List S64, (∀ x ∈ l, Rm x.f5 ∧ smallN x.f5 = true ∧ x.f0.size ≤ 140737488351232) → smallN l = true := by
    intro l
    induction l with
    | nil => intro _; rw [smallN]
    | cons x l ih =>
      intro hl
      have hx := hl x List.mem_cons_self
      rw [smallN_cons, decide_eq_true hx.2.2, hx.2.1, ih (fun y hy => hl y (List.mem_cons_of_mem _ hy))]
      rfl
  exact this _ hv
theorem vl_of : ∀ (n : Nat) (v : S74), GU74 n v → Vl v.f1 ∧ -9223372036854775808 ≤ v.f0.f1 ∧ v.f0.f1 ≤ 9223372036854775807
  | 0, v, h => h.elim
  | n + 1, v, h => by
    obtain ⟨⟨_, hi, _⟩, _, h1, h2⟩ := h
    have hi2 : -9223372036854775808 ≤ v.f0.f1 ∧ v.f0.f1 ≤ 9223372036854775807 := by simpa [Lit.wf, IntKind.min, IntKind.max, IntKind.signed, IntKind.bits] using hi
    exact ⟨Vl.mk _ (by omega) (fun x hx => by have := (h2 x hx).2.1; omega) (fun x hx u hu => (vl_of n u ((h2 x hx).2.2 u hu)).2) (fun x hx u hu => (vl_of n u ((h2 x hx).2.2 u hu)).1), hi2⟩
theorem vl_record (y : S42) (h : G42 y) : Vl y.f0 := by
  obtain ⟨_, h1, h2⟩ := h
  exact Vl.mk _ (by omega) (fun x hx => by have := (h2 x hx).2.1; omega) (fun x hx u hu => by
    obtain ⟨n, hn⟩ := (h2 x hx).2.2 u hu
    exact (vl_of n u hn).2) (fun x hx u hu => by
    obtain ⟨n, hn⟩ := (h2 x hx).2.2 u hu
    exact (vl_of n u hn).1)
theorem pure_ : Pure := by
  intro y0 y1 g0 g1
  obtain ⟨r0, s0⟩ := rm_schema y0 g0
  obtain ⟨_, hl, hr⟩ := g1
  have hv : ∀ r ∈ y1, Vl r.f0 := fun r h => vl_record r (hr r h)
  obtain ⟨b, hb⟩ := heavy_ans y0.f0 r0.sm y1 (by omega) (fun r h => (hv r h).sm)
  have h1 := own_check_ans y0.f0 s0 y1 hv
  have h2 := ref_check_ans y0.f0 r0 y1 (by omega) hv
  have hfin : Ans (fun k => marquetrylaw17_RecordsCheck.f k y0.f0 y0.f1 y1) true := by
    unfold marquetrylaw17_RecordsCheck.f
    refine Ans.bind hb ?_
    cases b with
    | true => exact Ans.pos rfl (Ans.const _)
    | false =>
      refine Ans.neg (by decide) (Ans.bind (f := fun _ => records_Check.f y0.f0 y0.f1 y1) ⟨0, fun _ _ => h1⟩ (Ans.bind h2 ?_))
      rw [beq_self_eq_true]
      exact Ans.const _
  exact hfin.get
end Go.Proofs.YtnbmgljcnbhinaaDoor.recordsCheck
end
