/- Texts of the claim, packed: PureSchemaFlat. -/
import Derived.Test.YtjdjlccdidfgoaaDoorZSchemaFlat6
import Derived.Test.YtjdjlccdidfgoaaDoorZSchemaFlat13
import Derived.Test.YtjdjlccdidfgoaaDoorZSchemaFlat14
import Derived.Test.YtjdjlccdidfgoaaDoorZSchemaFlat19
import Derived.Test.YtjdjlccdidfgoaaDoorZSchemaFlat20
section
/- A schema's flat list is what the document says, and is read as the schema (SchemaFlat), at every schema. -/
namespace Go.Proofs.YtjdjlccdidfgoaaDoor.schemaFlat
open Go.RowKit Go.Proofs.YtjdjlccdidfgoaaDoorW.PrintWords Go.Proofs.YtjdjlccdidfgoaaDoorW.PrintLast Go.Proofs.YtjdjlccdidfgoaaDoorW.PrintMore Go.Proofs.YtjdjlccdidfgoaaDoor.H Go.Proofs.YtjdjlccdidfgoaaDoorO Go.Proofs.YtjdjlccdidfgoaaDoor.SckAid Go.Proofs.YtjdjlccdidfgoaaDoor.SckCpy
set_option linter.unusedVariables false
set_option linter.unusedSimpArgs false
theorem rm_of : ∀ (n : Nat) (v : S62), GU62 n v → Rm v.f5 ∧ smallN v.f5 = true
  | 0, v, h => h.elim
  | n + 1, v, h => by
    obtain ⟨_, _, _, _, _, _, h1, h2⟩ := h
    refine ⟨Rm.mk _ (by omega) (fun x hx => (rm_of n x (h2 x hx)).1), ?_⟩
    have : ∀ l : List S62, (∀ x ∈ l, GU62 n x) → smallN l = true := by
      intro l
      induction l with
      | nil => intro _; rw [smallN]
      | cons x l ih =>
        intro hl
        have hx := hl x List.mem_cons_self
        have hr := (rm_of n x hx).2
        have hs : x.f0.size ≤ 140737488351232 := by
          cases n with
          | zero => exact hx.elim
          | succ n => exact hx.1
        rw [smallN_cons, decide_eq_true hs, hr, ih (fun y hy => hl y (List.mem_cons_of_mem _ hy))]
        rfl
    exact this _ h2
theorem rm_schema (y : S24) (h : G24 y) : Rm y.f1 ∧ smallN y.f1 = true := by
  obtain ⟨_, _, h1, h2⟩ := h
  have hv : ∀ x ∈ y.f1, Rm x.f5 ∧ smallN x.f5 = true ∧ x.f0.size ≤ 140737488351232 := fun x hx => by
    obtain ⟨n, hn⟩ := h2 x hx
    refine ⟨(rm_of n x hn).1, (rm_of n x hn).2, ?_⟩
    cases n with
    | zero => exact hn.elim
    | succ n => exact hn.1
  refine ⟨Rm.mk _ (by omega) (fun x hx => (hv x hx).1), ?_⟩
  have : ∀ l : List S62, (∀ x ∈ l, Rm x.f5 ∧ smallN x.f5 = true ∧ x.f0.size ≤ 140737488351232) → smallN l = true := by
    intro l
    induction l with
    | nil => intro _; rw [smallN]
    | cons x l ih =>
      intro hl
      have hx := hl x List.mem_cons_self
      rw [smallN_cons, decide_eq_true hx.2.2, hx.2.1, ih (fun y hy => hl y (List.mem_cons_of_mem _ hy))]
      rfl
  exact this _ hv
theorem flat_tot : ∀ (n : Nat) (l : List S62), SizeOf.sizeOf l ≤ n → (flatL l).length = tot l := by
  intro n
  induction n with
  | zero =>
    intro l hn
    exfalso
    cases l <;> simp at hn
  | succ n ih =>
    intro l hn
    cases l with
    | nil => rw [flatL_nil, tot_nil]; rfl
    | cons x xs =>
      have s1 : SizeOf.sizeOf x.f5 ≤ n := by have := szn_node' x; simp at hn; omega
      have s2 : SizeOf.sizeOf xs ≤ n := by simp at hn; omega
      rw [flatL_cons, tot_cons, List.length_cons, List.length_append, ih _ s1, ih _ s2]
      omega
theorem flat_ans {l : List S62} (h : Sm l) : tot l ≤ 1000 → Ans (fun k => marquetryref16_Flat.f k l) (flatL l) := by
  induction h with
  | mk l hl hk ih =>
    intro ht
    have loop : ∀ (rest pre : List S62) (out : List S43), l = pre ++ rest → out.length ≤ tot pre → Ans (fun k => marquetryref16_Flat.l0 k l out (pre.length : Int)) (out ++ flatL rest) := by
      intro rest
      induction rest with
      | nil =>
        intro pre out e ho
        have e2 : l.length = pre.length := by rw [e]; simp
        rw [flatL_nil, List.append_nil]
        refine Ans.succ (g := fun _ => some out) (fun k => ?_) (Ans.const _)
        simp only [marquetryref16_Flat.l0]
        rw [if_neg (by omega)]
      | cons x rest ihr =>
        intro pre out e ho
        have hx : x ∈ l := by rw [e]; simp
        have hlen : l.length = pre.length + (rest.length + 1) := by rw [e]; simp
        have hrd : rd_T62 l (pre.length : Int) = x := by rw [e]; exact rd_mid _ _ _
        have htl : tot l = tot pre + (1 + tot x.f5 + tot rest) := by rw [e, tot_app, tot_cons]
        have htp : tot (pre ++ [x]) = tot pre + (1 + tot x.f5) := by rw [tot_app, tot_cons, tot_nil]; omega
        have hft := flat_tot _ x.f5 (Nat.le_refl _)
        have hN := ihr (pre ++ [x]) (out ++ [⟨x.f0, x.f1, (x.f5.length : Int), x.f3, x.f4⟩] ++ flatL x.f5) (by rw [e]; simp) (by rw [htp, List.length_append, List.length_append, List.length_singleton, hft]; omega)
        have hg : Ans (fun k => (marquetryref16_Flat.f k x.f5).bind fun t279 => (if (out ++ [(⟨x.f0, x.f1, (x.f5.length : Int), x.f3, x.f4⟩ : S43)]).length + t279.length < 2932031007402 then (marquetryref16_Flat.l0 k l (out ++ [(⟨x.f0, x.f1, (x.f5.length : Int), x.f3, x.f4⟩ : S43)] ++ t279) (wrap64 ((pre.length : Int) + 1))) else (none))) (out ++ flatL (x :: rest)) := by
          refine Ans.bind (g := fun k t279 => (if (out ++ [(⟨x.f0, x.f1, (x.f5.length : Int), x.f3, x.f4⟩ : S43)]).length + t279.length < 2932031007402 then (marquetryref16_Flat.l0 k l (out ++ [(⟨x.f0, x.f1, (x.f5.length : Int), x.f3, x.f4⟩ : S43)] ++ t279) (wrap64 ((pre.length : Int) + 1))) else (none))) (ih x hx (by omega)) ?_
          refine Ans.pos (by rw [List.length_append, List.length_singleton, hft]; omega) ?_
          rw [wrap_succ pre.length (by omega)]
          rw [show out ++ flatL (x :: rest) = out ++ [⟨x.f0, x.f1, (x.f5.length : Int), x.f3, x.f4⟩] ++ flatL x.f5 ++ flatL rest by rw [flatL_cons]; simp]
          have e3 : ((pre ++ [x]).length : Int) = ((pre.length + 1 : Nat) : Int) := by simp
          rw [e3] at hN
          exact hN
        refine Ans.succ (fun k => ?_) hg
        simp only [marquetryref16_Flat.l0, Option.bind_some]
        rw [if_pos (by omega), if_pos (by omega), if_pos (by omega), hrd]
    exact Ans.succ (fun k => by simp only [marquetryref16_Flat.f]; rfl) (loop l [] [] rfl (by simp))
/-- A flat list is read as the nodes whose it is. -/
theorem unflat : ∀ (e : Nat) (l : List S62) (seen : List (List UInt8)) (rest : List S43), dep l + 1 ≤ e → tot l ≤ 256 → fineS l seen = true → nodesP e (l.length : Int) (flatL l ++ rest) = some (l, rest)
  | 0, l, seen, rest, hd, _, _ => by omega
  | e + 1, l, seen, rest, hd, ht, hf => by
    have hlt := tot_len l
    rw [nodesP, if_pos ⟨by omega, by omega⟩]
    have L : ∀ (xs : List S62) (seen : List (List UInt8)) (out : List S62), dep xs + 1 ≤ e + 1 → tot xs ≤ 256 → fineS xs seen = true → loopP (nodesP e) xs.length (flatL xs ++ rest) out = some (out ++ xs, rest) := by
      intro xs
      induction xs with
      | nil =>
        intro seen out _ _ _
        rw [flatL_nil, List.append_nil]
        rfl
      | cons x xs ihx =>
        intro seen out hd ht hf
        rw [dep_cons] at hd
        rw [tot_cons] at ht
        rw [fineS_cons] at hf
        simp only [Bool.and_eq_true] at hf
        obtain ⟨ho, _, hk, hr⟩ := hf
        rw [okN_is] at ho
        simp only [Bool.and_eq_true] at ho
        have hkind := ho.2.2.2
        unfold kindB at hkind
        have hN := unflat e x.f5 [] (flatL xs ++ rest) (by omega) (by omega) hk
        have hX := ihx _ (out ++ [x]) (by omega) (by omega) hr
        have hfacts : ((x.f5.length : Int) = 0 ∨ (x.f3 = 0 ∧ x.f4 = 0)) ∧ decide ((x.f5.length : Int) ≠ 0) = x.f2 := by
          cases hg : x.f2 with
          | true =>
            rw [hg, if_pos rfl] at hkind
            simp only [Bool.and_eq_true, decide_eq_true_eq] at hkind
            exact ⟨.inr ⟨hkind.2.1, hkind.2.2⟩, decide_eq_true (by omega)⟩
          | false =>
            rw [hg, if_neg (by decide)] at hkind
            simp only [Bool.and_eq_true, decide_eq_true_eq] at hkind
            exact ⟨.inl (by omega), decide_eq_false (by omega)⟩
        rw [flatL_cons, List.length_cons, List.cons_append, loopP, if_pos hfacts.1, List.append_assoc, hN, Option.bind_some]
        simp only
        rw [hfacts.2, ← eta_n x, hX]
        simp
    have := L l seen [] hd ht hf
    rw [List.nil_append] at this
    exact this
theorem pure_ : Pure := by
  intro y0 g0
  obtain ⟨r0, s0⟩ := rm_schema y0 g0
  have hck : schema_Check.f y0.f0 y0.f1 = some (if checkB y0.f0 y0.f1 = true then 0 else 2) := by
    unfold schema_Check.f checkB
    rw [if_pos s0]
    congr 1
    by_cases h : nameB y0.f0 = true ∧ y0.f1.length ≠ 0 ∧ (fineN y0.f1 1 256 []).1 = true
    · rw [if_pos h, if_pos (by rw [h.1, h.2.2, decide_eq_true h.2.1]; rfl)]
    · rw [if_neg h, if_neg]
      intro hh
      simp only [Bool.and_eq_true, decide_eq_true_eq] at hh
      exact h ⟨hh.1, hh.2.1, hh.2.2⟩
  have hself : marquetryref16_Same.f y0.f0 y0.f1 y0.f0 y0.f1 = some true := by
    unfold marquetryref16_Same.f
    rw [if_pos rfl]
    show some (sameN y0.f1 y0.f1) = _
    rw [sameN_self _ _ (Nat.le_refl _)]
  obtain ⟨c0, hc0, -⟩ := count_all r0.sm
  have hfin : Ans (fun k => marquetrylaw16_SchemaFlat.f k y0.f0 y0.f1) true := by
    unfold marquetrylaw16_SchemaFlat.f
    refine Ans.bind hc0 ?_
    by_cases hc : c0 > 100
    · exact Ans.pos hc (Ans.const _)
    refine Ans.neg hc ?_
    by_cases hb : checkB y0.f0 y0.f1 = true
    case neg =>
      have hF : schema_Flat.f y0.f0 y0.f1 = some ([], 2) := by
        unfold schema_Flat.f
        rw [hck, Option.bind_some, if_neg hb, if_pos (by decide)]
      refine Ans.bind (f := fun _ => schema_Flat.f y0.f0 y0.f1) ⟨0, fun _ _ => hF⟩ (Ans.bind (check_ans y0.f0 r0.sm) (Ans.neg hb (Ans.pos rfl (Ans.const _))))
    case pos =>
      have hcb := hb
      unfold checkB at hcb
      simp only [Bool.and_eq_true] at hcb
      obtain ⟨hi, -⟩ := fineN_is _ y0.f1 (Nat.le_refl _) 1 256 [] (by omega) (by omega)
      obtain ⟨h1, h2, h3⟩ := hi.1 hcb.2.2
      have hck0 : schema_Check.f y0.f0 y0.f1 = some 0 := by rw [hck, if_pos hb]
      have hF : schema_Flat.f y0.f0 y0.f1 = some (⟨y0.f0, 0, (y0.f1.length : Int), 0, 0⟩ :: flatL y0.f1, 0) := by
        unfold schema_Flat.f
        rw [hck0, Option.bind_some, if_neg (by decide)]
      have hft := flat_tot _ y0.f1 (Nat.le_refl _)
      have hW : Ans (fun k => marquetryref16_Whole.f k y0.f0 y0.f1) (⟨y0.f0, 0, (y0.f1.length : Int), 0, 0⟩ :: flatL y0.f1) := by
        unfold marquetryref16_Whole.f
        simp only [Option.bind_some]
        refine Ans.bind (g := fun _ t289 => (if ([(⟨y0.f0, 0, (y0.f1.length : Int), 0, 0⟩ : S43)] : List S43).length + t289.length < 2932031007402 then (some ([(⟨y0.f0, 0, (y0.f1.length : Int), 0, 0⟩ : S43)] ++ t289)) else (none))) (flat_ans r0.sm (by omega)) (Ans.pos (by rw [hft]; simp; omega) (Ans.const _))
      have hT : schema_Tree.f (⟨y0.f0, 0, (y0.f1.length : Int), 0, 0⟩ :: flatL y0.f1) = some (y0.f0, y0.f1, 0) := by
        have hU := unflat 33 y0.f1 [] [] (by omega) (by omega) h3
        rw [List.append_nil] at hU
        unfold schema_Tree.f
        rw [if_pos (by rw [List.length_cons, hft]; omega)]
        show (if (0 : Int) = 0 ∧ (0 : Int) = 0 ∧ (0 : Int) = 0 then _ else _) = _
        rw [if_pos ⟨rfl, rfl, rfl⟩, hU]
        show (if ([] : List S43).length = 0 then _ else _) = _
        rw [if_pos (show ([] : List S43).length = 0 from rfl)]
        show (schema_Check.f y0.f0 y0.f1).bind _ = _
        rw [hck0, Option.bind_some, if_pos rfl]
      obtain ⟨L, hL⟩ : ∃ L : List S43, L = ⟨y0.f0, 0, (y0.f1.length : Int), 0, 0⟩ :: flatL y0.f1 := ⟨_, rfl⟩
      have hLl : L.length ≤ 1000 := by rw [hL, List.length_cons, hft]; omega
      rw [← hL] at hF hW hT
      have hend : ∀ (e i : Nat), i + e = L.length → Ans (fun k => marquetrylaw16_SchemaFlat.l0 k L L (i : Int) y0.f0 y0.f1) true := by
        intro e
        induction e with
        | zero =>
          intro i hi
          refine Ans.succ (g := fun _ => some true) (fun k => ?_) (Ans.const _)
          simp only [marquetrylaw16_SchemaFlat.l0]
          rw [if_neg (by omega), hT, Option.bind_some, if_pos rfl, hself, Option.bind_some]
        | succ e ihe =>
          intro i hi
          refine Ans.succ (fun k => ?_) (ihe (i + 1) (by omega))
          simp only [marquetrylaw16_SchemaFlat.l0]
          rw [if_pos (by omega), if_pos (by omega), if_pos (by omega), if_neg (by simp), wrap_succ i (by omega)]
      have hJ : Ans (fun k => marquetrylaw16_SchemaFlat.j0 k L L ((L.length : Int) != (L.length : Int)) y0.f0 y0.f1) true := by
        refine Ans.succ (fun k => ?_) (hend L.length 0 (by omega))
        simp only [marquetrylaw16_SchemaFlat.j0]
        rw [if_neg (by simp)]
        rfl
      refine Ans.bind (f := fun _ => schema_Flat.f y0.f0 y0.f1) ⟨0, fun _ _ => hF⟩ (Ans.bind (check_ans y0.f0 r0.sm) (Ans.pos hb (Ans.bind hW (Ans.pos rfl hJ))))
  exact hfin.get
end Go.Proofs.YtjdjlccdidfgoaaDoor.schemaFlat
end
