/- Texts of the claim, packed: PureShredSlice. -/
import Derived.Test.YteokhlpleimnbaaZShredSlice21
import Derived.Test.YteokhlpleimnbaaZShredSlice23
section
/- The entries of some rows are told, or refused (ShredSlice), at every schema, leaf, column and rows. -/
namespace Go.Proofs.Yteokhlpleimnbaa.shredSlice
open Go.RowKit Go.Proofs.YteokhlpleimnbaaW.PrintWords Go.Proofs.YteokhlpleimnbaaW.PrintLast Go.Proofs.YteokhlpleimnbaaW.PrintMore Go.Proofs.Yteokhlpleimnbaa.H Go.Proofs.YteokhlpleimnbaaO Go.Proofs.Yteokhlpleimnbaa.SchAid Go.Proofs.Yteokhlpleimnbaa.ShrAid Go.Proofs.Yteokhlpleimnbaa.SlcAid
set_option linter.unusedVariables false
set_option linter.unusedSimpArgs false
theorem sm_of : ∀ (n : Nat) (x : S56), GU56 n x → Sm x.f5
 | 0, x, h => h.elim
 | n + 1, x, h => by
  obtain ⟨_, _, _, _, _, h5⟩ := h
  obtain ⟨_, h6, h7⟩ := h5
  exact Sm.mk _ (by omega) (fun y hy => sm_of n y (h7 y hy))
theorem sm_schema (y : S24) (h : G24 y) : Sm y.f1 := by
 obtain ⟨_, _, h6, h7⟩ := h
 exact Sm.mk _ (by omega) (fun x hx => by
  obtain ⟨n, hn⟩ := h7 x hx
  exact sm_of n x hn)
theorem wf_range {i : Int} (h : (Lit.int .i64 i).wf = true) : -9223372036854775808 ≤ i ∧ i ≤ 9223372036854775807 := by
 have e : (Lit.int .i64 i).wf = decide (-9223372036854775808 ≤ i ∧ i ≤ 9223372036854775807) := by
  simp [Lit.wf, IntKind.min, IntKind.max, IntKind.signed, IntKind.bits]
 rw [e] at h
 exact of_decide_eq_true h
theorem nil_col : Ans (fun k => r17_SameColumn.f k [] [] [] [] [] []) true := by
 have h := col_ev [] [] [] [] [] [] (by simp) (by simp) (by simp)
 simpa [eqAll] using h
theorem col_same (a0 a1 : List Int) (a2 : List S58) (h0 : a0.length ≤ 1000000) (h1 : a1.length ≤ 1000000) (h2 : a2.length ≤ 1000000) : Ans (fun k => r17_SameColumn.f k a0 a1 a2 a0 a1 a2) true := by
 have h := col_ev a0 a1 a2 a0 a1 a2 h0 h1 h2
 rw [eqAll_same] at h
 simpa using h
theorem zero_ans (no : Int) : Ans (fun k => l18_ShredSlice.z k ([], [], [], no) no) true := by
 unfold l18_ShredSlice.z
 exact Ans.bind nil_col (Ans.pos ⟨rfl, rfl⟩ (Ans.const _))
theorem pure_ : Pure := by
 intro y0 y1 y2 h0 h1 h2
 obtain ⟨hA, hB, _, _⟩ := h2
 have hsm := sm_schema y0 h0
 obtain ⟨L, hL, hLok⟩ := Leaves_all y0.f0 hsm
 obtain ⟨n, hn, _⟩ := count_all hsm
 obtain ⟨va, hva, hva2⟩ := vast_ev y2.f0.f0 y2.f0.f1 y2.f0.f2
 suffices h : Ans (fun k => l18_ShredSlice.f k y0.f0 y0.f1 y1 y2.f0.f0 y2.f0.f1 y2.f0.f2 y2.f1.f0 y2.f1.f1 y2.f1.f2 y2.f2 y2.f3) true from h.get
 unfold l18_ShredSlice.f
 refine Ans.bind hL (Ans.bind hn ?_)
 by_cases hbig : n > 40
 ·exact Ans.pos hbig (Ans.const _)
 refine Ans.neg hbig (Ans.bind hva ?_)
 cases va with
 | true => exact Ans.pos rfl (Ans.const _)
 | false =>
 refine Ans.neg (by decide) ?_
 by_cases k0 : y1 < 0
 ·exact Ans.pos k0 (Ans.const _)
 refine Ans.neg k0 ?_
 by_cases k1 : y1 ≥ (L.length : Int)
 ·exact Ans.pos k1 (Ans.const _)
 refine Ans.neg k1 ?_
 obtain ⟨a0, a1, a2⟩ := hva2 rfl
 obtain ⟨j, rfl⟩ := Int.eq_ofNat_of_zero_le (show 0 ≤ y1 by omega)
 have hm : rd_T44 L (j : Int) ∈ L := by
  unfold rd_T44
  rw [Int.toNat_natCast, List.getD_eq_getElem?_getD, List.getElem?_eq_getElem (by omega)]
  exact List.getElem_mem _
 obtain ⟨q0, q1⟩ := hLok _ hm
 generalize rd_T44 L (j : Int) = x at *
 have hw : ∀ y, y ∈ y2.f0.f2 → -9223372036854775808 ≤ y.f1 ∧ y.f1 ≤ 9223372036854775807 := fun y hy => wf_range (hA.2.2.2.2 y hy).2.1
 generalize y2.f0.f0 = l0 at *
 generalize y2.f0.f1 = l1 at *
 generalize y2.f0.f2 = l2 at *
 generalize y2.f2 = p at *
 generalize y2.f3 = q at *
 have r1 := right_ev x.f0 x.f1 x.f3 x.f4.f0 x.f4.f1 l0 l1 l2 q1 a0 a1 a2 hw
 rw [← q0] at r1
 have r2 := rows_ev l0 l1 l2 (by omega)
 unfold l18_ShredSlice.g
 by_cases hc : chk_ x.f1 x.f2 x.f3 x.f4.f0 x.f4.f1 l0 l1 l2 = 0
 ·rw [decide_eq_true hc] at r1
  have hgood := chk_good (show ¬ chk_ x.f1 x.f2 x.f3 x.f4.f0 x.f4.f1 l0 l1 l2 ≠ 0 from fun h => h hc)
  by_cases hr : p < 0 ∨ q < p ∨ ((zs_ l0 l0.length).length : Int) < q
  ·have e1 : shred_Slice.f l0 l1 l2 p q x.f0 x.f1 x.f2 x.f3 x.f4.f0 x.f4.f1 = some ([], [], [], 4) := by
    unfold shred_Slice.f
    rw [if_pos ⟨by omega, by omega, by omega, by omega⟩, if_neg (fun h => h hc), if_pos hr]
   rw [e1]
   simp only [Option.bind_some]
   refine Ans.bind r1 (Ans.neg (by decide) ?_)
   by_cases g0 : p < 0
   ·exact Ans.pos g0 (zero_ans 4)
   refine Ans.neg g0 ?_
   by_cases g1 : q < p
   ·exact Ans.pos g1 (zero_ans 4)
   refine Ans.neg g1 (Ans.bind r2 (Ans.pos ?_ (zero_ans 4)))
   rcases hr with h | h | h
   ·exact absurd h g0
   ·exact absurd h g1
   ·exact h
  ·have e1 : shred_Slice.f l0 l1 l2 p q x.f0 x.f1 x.f2 x.f3 x.f4.f0 x.f4.f1 = some ((l0.take ((atL_ l0).getD q.toNat 0)).drop ((atL_ l0).getD p.toNat 0), (l1.take ((atL_ l0).getD q.toNat 0)).drop ((atL_ l0).getD p.toNat 0),
     (l2.take (cnt_ x.f3 (l1.take ((atL_ l0).getD q.toNat 0)))).drop (cnt_ x.f3 (l1.take ((atL_ l0).getD p.toNat 0))), 0) := by
    unfold shred_Slice.f
    rw [if_pos ⟨by omega, by omega, by omega, by omega⟩, if_neg (fun h => h hc), if_neg hr]
   have g0 : ¬ p < 0 := fun h => hr (.inl h)
   have g1 : ¬ q < p := fun h => hr (.inr (.inl h))
   have g2 : ¬ q > ((zs_ l0 l0.length).length : Int) := fun h => hr (.inr (.inr h))
   obtain ⟨a, rfl⟩ := Int.eq_ofNat_of_zero_le (show 0 ≤ p by omega)
   obtain ⟨b, rfl⟩ := Int.eq_ofNat_of_zero_le (show 0 ≤ q by omega)
   rw [Int.toNat_natCast, Int.toNat_natCast] at e1
   have r3 := slice_ev x.f0 x.f1 x.f2 x.f3 x.f4.f0 x.f4.f1 l0 l1 l2 a b hgood.1 a0 hgood.2.2 (by omega) (by omega)
   rw [e1]
   simp only [Option.bind_some]
   have hle0 : ((l0.take ((atL_ l0).getD b 0)).drop ((atL_ l0).getD a 0)).length ≤ 1000000 := by simp only [List.length_drop, List.length_take]; omega
   have hle1 : ((l1.take ((atL_ l0).getD b 0)).drop ((atL_ l0).getD a 0)).length ≤ 1000000 := by simp only [List.length_drop, List.length_take]; omega
   have hle2 : ((l2.take (cnt_ x.f3 (l1.take ((atL_ l0).getD b 0)))).drop (cnt_ x.f3 (l1.take ((atL_ l0).getD a 0)))).length ≤ 1000000 := by simp only [List.length_drop, List.length_take]; omega
   have r4 := col_same _ _ _ hle0 hle1 hle2
   exact Ans.bind r1 (Ans.neg (by decide) (Ans.neg g0 (Ans.neg g1 (Ans.bind r2 (Ans.neg g2 (Ans.bind r3 (Ans.bind r4 (Ans.pos ⟨trivial, rfl⟩ (Ans.const _)))))))))
 ·rw [decide_eq_false hc] at r1
  have h280 : chk_ x.f1 x.f2 x.f3 x.f4.f0 x.f4.f1 l0 l1 l2 = 280 := by
   unfold chk_ at hc ⊢
   split at hc
   ·exact absurd rfl hc
   ·rename_i h
    rw [if_neg h]
  have e1 : shred_Slice.f l0 l1 l2 p q x.f0 x.f1 x.f2 x.f3 x.f4.f0 x.f4.f1 = some ([], [], [], 280) := by
   unfold shred_Slice.f
   rw [if_pos ⟨by omega, by omega, by omega, by omega⟩, if_pos hc, h280]
  rw [e1]
  simp only [Option.bind_some]
  exact Ans.bind r1 (Ans.pos rfl (zero_ans 280))
end Go.Proofs.Yteokhlpleimnbaa.shredSlice
end
