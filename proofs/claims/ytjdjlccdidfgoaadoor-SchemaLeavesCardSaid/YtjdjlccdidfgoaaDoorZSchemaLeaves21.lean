/- Texts of the claim, packed: LvsAid. -/
import Derived.Test.YtjdjlccdidfgoaaDoorZSchemaLeaves11
import Derived.Test.YtjdjlccdidfgoaaDoorZSchemaLeaves15
import Derived.Test.YtjdjlccdidfgoaaDoorZSchemaLeaves20
section
/- The document's leaves, exactly. -/
namespace Go.Proofs.YtjdjlccdidfgoaaDoor.LvsAid
open Go.RowKit Go.Proofs.YtjdjlccdidfgoaaDoorW.PrintWords Go.Proofs.YtjdjlccdidfgoaaDoorW.PrintLast Go.Proofs.YtjdjlccdidfgoaaDoorW.PrintMore Go.Proofs.YtjdjlccdidfgoaaDoor.H Go.Proofs.YtjdjlccdidfgoaaDoor.SckAid
set_option linter.unusedVariables false
set_option linter.unusedSimpArgs false
theorem leavesL_len : ∀ (n : Nat) (l : List S62), SizeOf.sizeOf l ≤ n → ∀ (path : List ByteArray) (steps : List Int) (rep dfn : Int), (leavesL l path steps rep dfn).length ≤ tot l := by
  intro n
  induction n with
  | zero =>
    intro l hn
    exfalso
    cases l <;> simp at hn
  | succ n ih =>
    intro l hn path steps rep dfn
    cases l with
    | nil => rw [leavesL_nil]; simp
    | cons x xs =>
      have s1 : SizeOf.sizeOf x.f5 ≤ n := by have := szn_node' x; simp at hn; omega
      have s2 : SizeOf.sizeOf xs ≤ n := by simp at hn; omega
      rw [leavesL_cons, tot_cons, List.length_append]
      have h2 := ih xs s2 path steps rep dfn
      have h1 : (leavesN x path steps rep dfn).length ≤ 1 + tot x.f5 := by
        unfold leavesN
        split
        · have := ih x.f5 s1 (path ++ [x.f0]) (steps ++ [x.f1]) (if x.f1 = 2 then rep + 1 else rep) (if x.f1 = 0 then dfn else dfn + 1)
          omega
        · simp
      omega
theorem leaves_ans {l : List S62} (h : Sm l) : ∀ (path : List ByteArray) (steps : List Int) (rep dfn kk kz : Int), path.length + dep l ≤ 1000 → steps.length + dep l ≤ 1000 → tot l ≤ 256 → 0 ≤ rep → rep + (dep l : Int) ≤ 1000 → 0 ≤ dfn → dfn + (dep l : Int) ≤ 1000 →
    Ans (fun k => marquetryref16_leaves.f k l path steps rep dfn kk kz) (leavesL l path steps rep dfn) := by
  induction h with
  | mk l hl hk ih =>
    intro path steps rep dfn kk kz hp hs ht hr0 hr1 hd0 hd1
    have loop : ∀ (rest pre : List S62) (out : List S52), l = pre ++ rest → out.length ≤ tot pre → Ans (fun k => marquetryref16_leaves.l0 k l out (pre.length : Int) path steps rep dfn kk kz) (out ++ leavesL rest path steps rep dfn) := by
      intro rest
      induction rest with
      | nil =>
        intro pre out e ho
        have e2 : l.length = pre.length := by rw [e]; simp
        rw [leavesL_nil, List.append_nil]
        refine Ans.succ (g := fun _ => some out) (fun k => ?_) (Ans.const _)
        simp only [marquetryref16_leaves.l0]
        rw [if_neg (by omega)]
      | cons x rest ihr =>
        intro pre out e ho
        have hx : x ∈ l := by rw [e]; simp
        have hlen : l.length = pre.length + (rest.length + 1) := by rw [e]; simp
        have hrd : rd_T62 l (pre.length : Int) = x := by rw [e]; exact rd_mid _ _ _
        have hdx := dep_mem hx
        have htl : tot l = tot pre + (1 + tot x.f5 + tot rest) := by rw [e, tot_app, tot_cons]
        have htp : tot (pre ++ [x]) = tot pre + (1 + tot x.f5) := by rw [tot_app, tot_cons, tot_nil]; omega
        have hll := leavesL_len _ x.f5 (Nat.le_refl _)
        rw [leavesL_cons, ← List.append_assoc]
        -- what is behind a node
        have next : ∀ t : List S52, t.length ≤ 1 + tot x.f5 → Ans (fun k => if out.length + t.length < 1759218604441 then marquetryref16_leaves.l0 k l (out ++ t) (wrap64 ((pre.length : Int) + 1)) path steps rep dfn kk kz else none) (out ++ t ++ leavesL rest path steps rep dfn) := by
          intro t htn
          have hL := ihr (pre ++ [x]) (out ++ t) (by rw [e]; simp) (by rw [htp, List.length_append]; omega)
          refine Ans.pos (by omega) (Ans.congr (fun k => ?_) hL)
          rw [wrap_on (by omega) (by omega)]
          simp
        have hwr := wrap_on (i := rep + 1) (by omega) (by omega)
        have hwd := wrap_on (i := dfn + 1) (by omega) (by omega)
        obtain ⟨r1, hr1e⟩ : ∃ r1, r1 = (if x.f1 = 2 then rep + 1 else rep) := ⟨_, rfl⟩
        have hr1b : 0 ≤ r1 ∧ r1 ≤ rep + 1 := by rw [hr1e]; split <;> omega
        have hj1 : Ans (fun k => marquetryref16_leaves.j1 k l out (pre.length : Int) path steps rep dfn kk kz x.f0 x.f1 x.f2 x.f3 x.f4 x.f5 (path ++ [x.f0]) (steps ++ [x.f1]) r1 dfn 0 0) (out ++ leavesN x path steps rep dfn ++ leavesL rest path steps rep dfn) := by
          unfold leavesN
          rw [← hr1e]
          have grp : ∀ d1 : Int, 0 ≤ d1 → d1 ≤ dfn + 1 → Ans (fun k => (marquetryref16_leaves.f k x.f5 (path ++ [x.f0]) (steps ++ [x.f1]) r1 d1 0 0).bind fun t => (if out.length + t.length < 1759218604441 then (marquetryref16_leaves.l0 k l (out ++ t) (wrap64 ((pre.length : Int) + 1)) path steps rep dfn kk kz) else (none))) (out ++ leavesL x.f5 (path ++ [x.f0]) (steps ++ [x.f1]) r1 d1 ++ leavesL rest path steps rep dfn) := by
            intro d1 h0 h1
            refine Ans.bind (ih x hx (path ++ [x.f0]) (steps ++ [x.f1]) r1 d1 0 0 (by simp; omega) (by simp; omega) (by omega) hr1b.1 (by omega) h0 (by omega)) ?_
            exact next _ (by have := hll (path ++ [x.f0]) (steps ++ [x.f1]) r1 d1; omega)
          by_cases h0 : x.f1 = 0
          · by_cases hg : x.f2 = true
            · rw [if_pos h0, if_pos hg]
              exact Ans.succ (fun k => by simp only [marquetryref16_leaves.j1]; rw [if_pos h0, if_pos hg]) (grp dfn hd0 (by omega))
            · rw [if_pos h0, if_neg hg]
              exact Ans.succ (fun k => by simp only [marquetryref16_leaves.j1, Option.bind_some]; rw [if_pos h0, if_neg hg]) (next [⟨path ++ [x.f0], steps ++ [x.f1], r1, dfn, ⟨x.f3, x.f4⟩⟩] (by simp))
          · by_cases hg : x.f2 = true
            · rw [if_neg h0, if_pos hg]
              exact Ans.succ (fun k => by simp only [marquetryref16_leaves.j1]; rw [if_neg h0, if_pos hg, hwd]) (grp (dfn + 1) (by omega) (by omega))
            · rw [if_neg h0, if_neg hg]
              exact Ans.succ (fun k => by simp only [marquetryref16_leaves.j1, Option.bind_some]; rw [if_neg h0, if_neg hg, hwd]) (next [⟨path ++ [x.f0], steps ++ [x.f1], r1, dfn + 1, ⟨x.f3, x.f4⟩⟩] (by simp))
        refine Ans.succ (fun k => ?_) hj1
        simp only [marquetryref16_leaves.l0, Option.bind_some]
        rw [if_pos (by omega), if_pos (by omega), hrd, if_pos (by simp; omega), if_pos (by simp; omega), if_pos (by simp; omega), if_pos (by simp; omega)]
        simp only [List.nil_append]
        rw [hr1e]
        by_cases h2 : x.f1 = 2
        · rw [if_pos h2, if_pos h2, hwr]
        · rw [if_neg h2, if_neg h2]
    exact Ans.succ (fun k => by simp only [marquetryref16_leaves.f]; rfl) (loop l [] [] rfl (by simp))
theorem Leaves_ans (name : ByteArray) {l : List S62} (h : Sm l) : Ans (fun k => marquetryref16_Leaves.f k name l) (if checkB name l = true then leavesL l [] [] 0 0 else []) := by
  have hb := check_ans name h
  unfold marquetryref16_Leaves.f
  refine Ans.bind hb ?_
  cases hc : checkB name l with
  | false => exact Ans.neg (by decide) (Ans.const _)
  | true =>
    have hf : tot l ≤ 256 ∧ dep l ≤ 32 := by
      unfold checkB at hc
      simp only [Bool.and_eq_true] at hc
      obtain ⟨hi, -⟩ := fineN_is _ l (Nat.le_refl _) 1 256 [] (by omega) (by omega)
      obtain ⟨h1, h2, _⟩ := hi.1 hc.2.2
      exact ⟨by omega, by omega⟩
    rw [if_pos rfl]
    exact Ans.pos rfl (Ans.bind (g := fun _ t => some t) (leaves_ans h [] [] 0 0 0 0 (by simp; omega) (by simp; omega) hf.1 (by omega) (by omega) (by omega) (by omega)) (Ans.const _))
end Go.Proofs.YtjdjlccdidfgoaaDoor.LvsAid
end
