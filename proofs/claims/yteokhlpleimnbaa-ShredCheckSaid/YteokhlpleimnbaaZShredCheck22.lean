/- Texts of the claim, packed: PureShredCheck. -/
import Derived.Test.YteokhlpleimnbaaZShredCheck19
import Derived.Test.YteokhlpleimnbaaZShredCheck21
section
/- Entries that may be a leaf's, rows, sameness and copies of columns (ShredCheck), at every schema, leaf and columns. -/
namespace Go.Proofs.Yteokhlpleimnbaa.shredCheck
open Go.RowKit Go.Proofs.YteokhlpleimnbaaW.PrintWords Go.Proofs.YteokhlpleimnbaaW.PrintLast Go.Proofs.YteokhlpleimnbaaW.PrintMore Go.Proofs.Yteokhlpleimnbaa.H Go.Proofs.YteokhlpleimnbaaO Go.Proofs.Yteokhlpleimnbaa.SchAid Go.Proofs.Yteokhlpleimnbaa.ShrAid
set_option linter.unusedVariables false
set_option linter.unusedSimpArgs false
theorem sm_of : ∀ (n : Nat) (x : S56), GU56 n x → Sm x.f5
  | 0, x, h => h.elim
  | n + 1, x, h => by
    obtain ⟨_, _, _, _, _, h5⟩ := h
    obtain ⟨_, h6, h7⟩ := h5
    exact Sm.mk _ (by omega) (fun y hy => sm_of n y (h7 y hy))
theorem sm_schema (y : S24) (h : G24 y) : Sm y.f1 := by
  obtain ⟨_, _, h6, h7⟩ := h
  exact Sm.mk _ (by omega) (fun x hx => by
    obtain ⟨n, hn⟩ := h7 x hx
    exact sm_of n x hn)
theorem wf_range {i : Int} (h : (Lit.int .i64 i).wf = true) : -9223372036854775808 ≤ i ∧ i ≤ 9223372036854775807 := by
  have e : (Lit.int .i64 i).wf = decide (-9223372036854775808 ≤ i ∧ i ≤ 9223372036854775807) := by
    simp [Lit.wf, IntKind.min, IntKind.max, IntKind.signed, IntKind.bits]
  rw [e] at h
  exact of_decide_eq_true h
theorem pure_ : Pure := by
  intro y0 y1 y2 h0 h1 h2
  obtain ⟨hA, hB, _, _⟩ := h2
  have hsm := sm_schema y0 h0
  obtain ⟨L, hL, hLok⟩ := Leaves_all y0.f0 hsm
  obtain ⟨n, hn, _⟩ := count_all hsm
  obtain ⟨va, hva, hva2⟩ := vast_ev y2.f0.f0 y2.f0.f1 y2.f0.f2
  obtain ⟨vb, hvb, hvb2⟩ := vast_ev y2.f1.f0 y2.f1.f1 y2.f1.f2
  suffices h : Ans (fun k => marquetrylaw18_ShredCheck.f k y0.f0 y0.f1 y1 y2.f0.f0 y2.f0.f1 y2.f0.f2 y2.f1.f0 y2.f1.f1 y2.f1.f2 y2.f2 y2.f3) true from h.get
  unfold marquetrylaw18_ShredCheck.f
  refine Ans.bind hL (Ans.bind hn ?_)
  by_cases hbig : n > 40
  · exact Ans.pos hbig (Ans.const _)
  refine Ans.neg hbig (Ans.bind hva ?_)
  cases va with
  | true => exact Ans.pos rfl (Ans.const _)
  | false =>
  refine Ans.neg (by decide) (Ans.bind hvb ?_)
  cases vb with
  | true => exact Ans.pos rfl (Ans.const _)
  | false =>
  refine Ans.neg (by decide) ?_
  by_cases k0 : y1 < 0
  · exact Ans.pos k0 (Ans.const _)
  refine Ans.neg k0 ?_
  by_cases k1 : y1 ≥ (L.length : Int)
  · exact Ans.pos k1 (Ans.const _)
  refine Ans.neg k1 ?_
  obtain ⟨a0, a1, a2⟩ := hva2 rfl
  obtain ⟨b0, b1, b2⟩ := hvb2 rfl
  obtain ⟨j, rfl⟩ := Int.eq_ofNat_of_zero_le (show 0 ≤ y1 by omega)
  have hm : rd_T44 L (j : Int) ∈ L := by
    unfold rd_T44
    rw [Int.toNat_natCast, List.getD_eq_getElem?_getD, List.getElem?_eq_getElem (by omega)]
    exact List.getElem_mem _
  obtain ⟨q0, q1⟩ := hLok _ hm
  generalize rd_T44 L (j : Int) = x at *
  have hw : ∀ y, y ∈ y2.f0.f2 → -9223372036854775808 ≤ y.f1 ∧ y.f1 ≤ 9223372036854775807 := fun y hy => wf_range (hA.2.2.2.2 y hy).2.1
  generalize y2.f0.f0 = l0 at *
  generalize y2.f0.f1 = l1 at *
  generalize y2.f0.f2 = l2 at *
  generalize y2.f1.f0 = m0 at *
  generalize y2.f1.f1 = m1 at *
  generalize y2.f1.f2 = m2 at *
  unfold marquetrylaw18_ShredCheck.g
  have e1 : shred_Check.f x.f0 x.f1 x.f2 x.f3 x.f4.f0 x.f4.f1 l0 l1 l2 = some (chk_ x.f1 x.f2 x.f3 x.f4.f0 x.f4.f1 l0 l1 l2) := by
    unfold shred_Check.f
    rw [if_pos ⟨by omega, by omega, by omega, by omega⟩]
  have e2 : shred_Copy.f l0 l1 l2 = some (l0, l1, l2) := by
    unfold shred_Copy.f
    rw [if_pos ⟨by omega, by omega, by omega⟩]
  have e3 : shred_Rows.f l0 l1 l2 = some ((zs_ l0 l0.length).length : Int) := by
    unfold shred_Rows.f
    rw [if_pos (by omega)]
  have e4 : shred_Same.f l0 l1 l2 m0 m1 m2 = some (decide (l0 = m0) && decide (l1 = m1) && eqAll l2 m2) := by
    unfold shred_Same.f
    rw [if_pos ⟨by omega, by omega, by omega⟩]
  have r1 := right_ev x.f0 x.f1 x.f3 x.f4.f0 x.f4.f1 l0 l1 l2 q1 a0 a1 a2 hw
  rw [← q0] at r1
  have r2 := rows_ev l0 l1 l2 (by omega)
  have r3 := col_ev l0 l1 l2 m0 m1 m2 (by omega) (by omega) (by omega)
  have r4 := col_ev l0 l1 l2 l0 l1 l2 (by omega) (by omega) (by omega)
  rw [e1, e2, e3, e4]
  simp only [Option.bind_some]
  refine Ans.bind r1 (Ans.bind r2 (Ans.bind r3 (Ans.bind r4 (Ans.pos ⟨?_, rfl, rfl, ?_⟩ (Ans.const _)))))
  · by_cases hc : chk_ x.f1 x.f2 x.f3 x.f4.f0 x.f4.f1 l0 l1 l2 = 0
    · exact .inl ⟨hc, decide_eq_true hc⟩
    · refine .inr ⟨?_, decide_eq_false hc⟩
      unfold chk_ at hc ⊢
      split at hc
      · exact absurd rfl hc
      · rename_i h
        rw [if_neg h]
  · rw [eqAll_same]
    simp
end Go.Proofs.Yteokhlpleimnbaa.shredCheck
end
