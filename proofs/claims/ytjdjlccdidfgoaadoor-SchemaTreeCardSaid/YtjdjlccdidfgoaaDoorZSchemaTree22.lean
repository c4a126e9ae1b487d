/- Texts of the claim, packed: TreAid. -/
import Derived.Test.YtjdjlccdidfgoaaDoorZSchemaTree16
import Derived.Test.YtjdjlccdidfgoaaDoorZSchemaTree17
import Derived.Test.YtjdjlccdidfgoaaDoorZSchemaTree18
import Derived.Test.YtjdjlccdidfgoaaDoorZSchemaTree21
section
/- The document's nodes and Tree, exactly; what the program's Tree tells is the same. -/
namespace Go.Proofs.YtjdjlccdidfgoaaDoor.TreAid
open Go.RowKit Go.Proofs.YtjdjlccdidfgoaaDoorW.PrintWords Go.Proofs.YtjdjlccdidfgoaaDoorW.PrintLast Go.Proofs.YtjdjlccdidfgoaaDoorW.PrintMore Go.Proofs.YtjdjlccdidfgoaaDoor.H Go.Proofs.YtjdjlccdidfgoaaDoor.SckAid
set_option linter.unusedVariables false
set_option linter.unusedSimpArgs false
abbrev NR := Option (List S62 × List S43)
def ansN : NR → List S62 × List S43 × Bool
  | none => ([], [], false)
  | some (ns, rest) => (ns, rest, true)
theorem dec_ne (a : Int) : decide (a ≠ 0) = (a != 0) := by by_cases h : a = 0 <;> simp [h]
/-- What is out stays out. -/
theorem loop_in (f : Int → List S43 → NR) : ∀ (k : Nat) (l : List S43) (out ns : List S62) (rest : List S43), loopP f k l out = some (ns, rest) → ∀ x ∈ out, x ∈ ns
  | 0, l, out, ns, rest, h, x, hx => by
    rw [loopP] at h
    obtain ⟨rfl, rfl⟩ := Prod.mk.inj (Option.some.inj h)
    exact hx
  | k + 1, [], out, ns, rest, h, x, hx => by
    rw [loopP] at h
    cases h
  | k + 1, y :: l, out, ns, rest, h, x, hx => by
    rw [loopP] at h
    split at h
    case isFalse => cases h
    case isTrue =>
      obtain ⟨p, hp, h⟩ := Option.bind_eq_some_iff.mp h
      exact loop_in f k p.2 _ ns rest h x (List.mem_append_left _ hx)
theorem loop_turn (f g : Int → List S43 → NR) (ns : List S62) (rest : List S43) (hf : ∀ n l p, g n l = some p → 1 + dep p.1 ≤ dep ns → f n l = some p) :
    ∀ (k : Nat) (l : List S43) (out : List S62), loopP g k l out = some (ns, rest) → loopP f k l out = some (ns, rest)
  | 0, l, out, h => by
    rw [loopP] at h ⊢
    exact h
  | k + 1, [], out, h => by
    rw [loopP] at h
    cases h
  | k + 1, y :: l, out, h => by
    rw [loopP] at h ⊢
    split at h
    case isFalse => cases h
    case isTrue hc =>
      obtain ⟨p, hp, h⟩ := Option.bind_eq_some_iff.mp h
      have hd := dep_mem (loop_in g k p.2 _ ns rest h _ (List.mem_append_right _ (List.mem_singleton.2 rfl)))
      rw [if_pos hc, hf _ _ _ hp hd]
      exact loop_turn f g ns rest hf k p.2 _ h
theorem loop_mono (f g : Int → List S43 → NR) (hf : ∀ n l p, g n l = some p → f n l = some p) :
    ∀ (k : Nat) (l : List S43) (out : List S62) (p : List S62 × List S43), loopP g k l out = some p → loopP f k l out = some p
  | 0, l, out, p, h => by
    rw [loopP] at h ⊢
    exact h
  | k + 1, [], out, p, h => by
    rw [loopP] at h
    cases h
  | k + 1, y :: l, out, p, h => by
    rw [loopP] at h ⊢
    split at h
    case isFalse => cases h
    case isTrue hc =>
      obtain ⟨q, hq, h⟩ := Option.bind_eq_some_iff.mp h
      rw [if_pos hc, hf _ _ _ hq]
      exact loop_mono f g hf k q.2 _ p h
theorem nodes_mono : ∀ (e : Nat) (n : Int) (l : List S43) (p : List S62 × List S43), nodesP e n l = some p → nodesP (e + 1) n l = some p
  | 0, n, l, p, h => by cases h
  | e + 1, n, l, p, h => by
    rw [nodesP] at h ⊢
    split at h
    case isFalse => cases h
    case isTrue hc =>
      rw [if_pos hc]
      exact loop_mono _ _ (nodes_mono e) _ _ _ _ h
theorem nodes_less : ∀ (e : Nat) (n : Int) (l : List S43) (ns : List S62) (rest : List S43), nodesP (e + 1) n l = some (ns, rest) → dep ns + 1 ≤ e → nodesP e n l = some (ns, rest)
  | 0, n, l, ns, rest, h, hd => by omega
  | e + 1, n, l, ns, rest, h, hd => by
    rw [nodesP] at h ⊢
    split at h
    case isFalse => cases h
    case isTrue hc =>
      rw [if_pos hc]
      exact loop_turn _ _ ns rest (fun n' l' p hp hdp => nodes_less e n' l' p.1 p.2 hp (by omega)) _ _ _ h
/-- Small enough for the document's Check; the names are the list's; what is left is no longer. -/
structure OkN (B : Nat) (l : List S43) (ns : List S62) (rest : List S43) : Prop where
  rm : Sm ns
  nm : smallN ns = true
  rl : ∀ x ∈ rest, x.f0.size ≤ 140737488351232
  len : rest.length ≤ l.length
theorem smallN_app (a b : List S62) (ha : smallN a = true) (hb : smallN b = true) : smallN (a ++ b) = true := by
  induction a with
  | nil => exact hb
  | cons x a ih =>
    rw [smallN_cons] at ha
    simp only [Bool.and_eq_true] at ha
    rw [List.cons_append, smallN_cons, ha.1, ha.2.1, ih ha.2.2]
    rfl
theorem loop_ok (f : Int → List S43 → NR) (hf : ∀ n l p, f n l = some p → (∀ x ∈ l, x.f0.size ≤ 140737488351232) → OkN 0 l p.1 p.2) :
    ∀ (k : Nat) (l : List S43) (out ns : List S62) (rest : List S43), loopP f k l out = some (ns, rest) → (∀ x ∈ l, x.f0.size ≤ 140737488351232) → (∀ x ∈ out, Sm x.f5) → smallN out = true →
      ns.length = out.length + k ∧ (∀ x ∈ ns, Sm x.f5) ∧ smallN ns = true ∧ (∀ x ∈ rest, x.f0.size ≤ 140737488351232) ∧ rest.length ≤ l.length
  | 0, l, out, ns, rest, h, hl, ho, hs => by
    rw [loopP] at h
    obtain ⟨rfl, rfl⟩ := Prod.mk.inj (Option.some.inj h)
    exact ⟨rfl, ho, hs, hl, Nat.le_refl _⟩
  | k + 1, [], out, ns, rest, h, hl, ho, hs => by
    rw [loopP] at h
    cases h
  | k + 1, y :: l, out, ns, rest, h, hl, ho, hs => by
    rw [loopP] at h
    split at h
    case isFalse => cases h
    case isTrue hc =>
      obtain ⟨p, hp, h⟩ := Option.bind_eq_some_iff.mp h
      have hok := hf _ _ _ hp (fun x hx => hl x (List.mem_cons_of_mem _ hx))
      obtain ⟨a1, a2, a3, a4, a5⟩ := loop_ok f hf k p.2 _ ns rest h hok.rl (fun x hx => by
        rcases List.mem_append.1 hx with hx | hx
        · exact ho x hx
        · obtain rfl := List.mem_singleton.1 hx
          exact hok.rm) (smallN_app _ _ hs (by rw [smallN_cons, decide_eq_true (show y.f0.size ≤ 140737488351232 from hl y List.mem_cons_self)]; show (true && (smallN p.1 && smallN [])) = true; rw [hok.nm, smallN]; rfl))
      refine ⟨by rw [a1]; simp; omega, a2, a3, a4, ?_⟩
      have := hok.len
      simp only [List.length_cons]
      omega
theorem nodes_ok : ∀ (e : Nat) (n : Int) (l : List S43) (p : List S62 × List S43), nodesP e n l = some p → (∀ x ∈ l, x.f0.size ≤ 140737488351232) → OkN 0 l p.1 p.2
  | 0, n, l, p, h, hl => by cases h
  | e + 1, n, l, (ns, rest), h, hl => by
    rw [nodesP] at h
    split at h
    case isFalse => cases h
    case isTrue hc =>
      obtain ⟨a1, a2, a3, a4, a5⟩ := loop_ok _ (nodes_ok e) _ _ _ ns rest h hl (fun x hx => by cases hx) (by rw [smallN])
      exact ⟨Sm.mk _ (by rw [a1]; simp; omega) a2, a3, a4, a5⟩
theorem nodes_ans : ∀ (e : Nat), e ≤ 100 → ∀ (n : Int) (l : List S43), (∀ x ∈ l, x.f0.size ≤ 140737488351232) → Ans (fun k => marquetryref16_nodes.f k l n ((e : Int) - 1)) (ansN (nodesP e n l)) := by
  intro e
  induction e with
  | zero =>
    intro he n l hsz
    have hJ : Ans (fun k => marquetryref16_nodes.j0 k l n (((0 : Nat) : Int) - 1) [] true) (ansN (nodesP 0 n l)) := by
      refine Ans.succ (g := fun _ => some (([] : List S62), ([] : List S43), false)) (fun k => ?_) (Ans.const _)
      simp only [marquetryref16_nodes.j0]
      rw [if_pos trivial]
    refine Ans.succ (fun k => ?_) hJ
    simp only [marquetryref16_nodes.f]
    by_cases h0 : n < 0
    · rw [if_pos h0]
    · by_cases h1 : n > 256
      · rw [if_neg h0, if_pos h1]
      · rw [if_neg h0, if_neg h1, decide_eq_true (by omega)]
  | succ e ih =>
    intro he n l hsz
    by_cases hn : 0 ≤ n ∧ n ≤ 256
    case neg =>
      have hP : nodesP (e + 1) n l = none := by rw [nodesP, if_neg hn]
      rw [hP]
      have hJ : Ans (fun k => marquetryref16_nodes.j0 k l n (((e + 1 : Nat) : Int) - 1) [] true) (ansN none) := by
        refine Ans.succ (g := fun _ => some (([] : List S62), ([] : List S43), false)) (fun k => ?_) (Ans.const _)
        simp only [marquetryref16_nodes.j0]
        rw [if_pos trivial]
      refine Ans.succ (fun k => ?_) hJ
      simp only [marquetryref16_nodes.f]
      by_cases h0 : n < 0
      · rw [if_pos h0]
      · rw [if_neg h0, if_pos (by omega)]
    case pos =>
      have hP : nodesP (e + 1) n l = loopP (nodesP e) n.toNat l [] := by rw [nodesP, if_pos hn]
      rw [hP]
      have L : ∀ (c i : Nat) (l : List S43) (out : List S62), i + c = n.toNat → out.length = i → (∀ x ∈ l, x.f0.size ≤ 140737488351232) → Ans (fun k => marquetryref16_nodes.l0 k l n (((e + 1 : Nat) : Int) - 1) out (i : Int)) (ansN (loopP (nodesP e) c l out)) := by
        intro c
        induction c with
        | zero =>
          intro i l out hi ho hl
          refine Ans.succ (g := fun _ => some (out, l, true)) (fun k => ?_) (Ans.const _)
          simp only [marquetryref16_nodes.l0]
          rw [if_neg (by omega)]
        | succ c ihc =>
          intro i l out hi ho hl
          cases l with
          | nil =>
            refine Ans.succ (g := fun _ => some (([] : List S62), ([] : List S43), false)) (fun k => ?_) (Ans.const _)
            simp only [marquetryref16_nodes.l0]
            rw [if_pos (by omega), if_pos (show ((([] : List S43).length : Nat) : Int) = 0 from rfl)]
          | cons x l =>
            have er : rd_T43 (x :: l) 0 = x := rfl
            have hl1 : ∀ y ∈ l, y.f0.size ≤ 140737488351232 := fun y hy => hl y (List.mem_cons_of_mem _ hy)
            have hlen : ¬ ((x :: l).length : Int) = 0 := by simp only [List.length_cons]; omega
            have hlen2 : 0 < ((x :: l).length : Int) := by simp only [List.length_cons]; omega
            have hlen3 : 1 ≤ ((x :: l).length : Int) := by simp only [List.length_cons]; omega
            have hwr : wrap64 ((((e + 1 : Nat) : Int) - 1) - 1) = (e : Int) - 1 := by unfold wrap64; omega
            -- the node is refused
            have B : Ans (fun k => marquetryref16_nodes.j2 k (x :: l) n (((e + 1 : Nat) : Int) - 1) out (i : Int) true x.f0 x.f1 x.f2 x.f3 x.f4) (ansN none) := by
              refine Ans.succ (g := fun _ => some (([] : List S62), ([] : List S43), false)) (fun k => ?_) (Ans.const _)
              simp only [marquetryref16_nodes.j2]
              rw [if_pos trivial]
            -- the node is taken
            have G : Ans (fun k => marquetryref16_nodes.j2 k (x :: l) n (((e + 1 : Nat) : Int) - 1) out (i : Int) false x.f0 x.f1 x.f2 x.f3 x.f4) (ansN ((nodesP e x.f2 l).bind fun p => loopP (nodesP e) c p.2 (out ++ [⟨x.f0, x.f1, decide (x.f2 ≠ 0), x.f3, x.f4, p.1⟩]))) := by
              have hA := ih (by omega) x.f2 l hl1
              have hg : Ans (fun k => (marquetryref16_nodes.f k l x.f2 ((e : Int) - 1)).bind fun bt231 => (if bt231.2.2 = true then (if out.length < 1954687338268 then (marquetryref16_nodes.l0 k bt231.2.1 n (((e + 1 : Nat) : Int) - 1) (out ++ [(⟨x.f0, x.f1, (x.f2 != 0), x.f3, x.f4, bt231.1⟩ : S62)]) (wrap64 ((i : Int) + 1))) else (none)) else (some (([] : List S62), ([] : List S43), false))))
                  (ansN ((nodesP e x.f2 l).bind fun p => loopP (nodesP e) c p.2 (out ++ [⟨x.f0, x.f1, decide (x.f2 ≠ 0), x.f3, x.f4, p.1⟩]))) := by
                refine Ans.bind (g := fun k bt231 => (if bt231.2.2 = true then (if out.length < 1954687338268 then (marquetryref16_nodes.l0 k bt231.2.1 n (((e + 1 : Nat) : Int) - 1) (out ++ [(⟨x.f0, x.f1, (x.f2 != 0), x.f3, x.f4, bt231.1⟩ : S62)]) (wrap64 ((i : Int) + 1))) else (none)) else (some (([] : List S62), ([] : List S43), false)))) hA ?_
                cases hnp : nodesP e x.f2 l with
                | none => exact Ans.neg (by simp [ansN]) (Ans.const _)
                | some p =>
                  have hok := nodes_ok e _ _ _ hnp hl1
                  refine Ans.pos rfl (Ans.pos (by omega) ?_)
                  rw [wrap_succ i (by omega)]
                  have := ihc (i + 1) p.2 (out ++ [⟨x.f0, x.f1, (x.f2 != 0), x.f3, x.f4, p.1⟩]) (by omega) (by simp [ho]) hok.rl
                  rw [show ansN ((some p).bind fun p => loopP (nodesP e) c p.2 (out ++ [⟨x.f0, x.f1, decide (x.f2 ≠ 0), x.f3, x.f4, p.1⟩])) = ansN (loopP (nodesP e) c p.2 (out ++ [⟨x.f0, x.f1, (x.f2 != 0), x.f3, x.f4, p.1⟩])) by rw [← dec_ne]; rfl]
                  exact this
              refine Ans.succ (fun k => ?_) hg
              simp only [marquetryref16_nodes.j2]
              rw [if_neg (by decide), if_pos hlen3, hwr]
              rfl
            by_cases f2 : x.f2 = 0
            · rw [loopP, if_pos (.inl f2)]
              refine Ans.succ (fun k => ?_) G
              simp only [marquetryref16_nodes.l0]
              rw [if_pos (by omega), if_neg hlen, if_pos hlen2, er, if_pos f2]
            · by_cases f3 : x.f3 = 0
              · by_cases f4 : x.f4 = 0
                · rw [loopP, if_pos (.inr ⟨f3, f4⟩)]
                  refine Ans.succ (fun k => ?_) G
                  simp only [marquetryref16_nodes.l0]
                  rw [if_pos (by omega), if_neg hlen, if_pos hlen2, er, if_neg f2, if_pos f3, show (x.f4 != 0) = false by simp [f4]]
                · rw [loopP, if_neg (fun h => h.elim f2 (fun h => f4 h.2))]
                  refine Ans.succ (fun k => ?_) B
                  simp only [marquetryref16_nodes.l0]
                  rw [if_pos (by omega), if_neg hlen, if_pos hlen2, er, if_neg f2, if_pos f3, show (x.f4 != 0) = true by simp [f4]]
              · rw [loopP, if_neg (fun h => h.elim f2 (fun h => f3 h.1))]
                refine Ans.succ (fun k => ?_) B
                simp only [marquetryref16_nodes.l0]
                rw [if_pos (by omega), if_neg hlen, if_pos hlen2, er, if_neg f2, if_neg f3]
      have hJ : Ans (fun k => marquetryref16_nodes.j0 k l n (((e + 1 : Nat) : Int) - 1) [] false) (ansN (loopP (nodesP e) n.toNat l [])) := by
        refine Ans.succ (fun k => ?_) (L n.toNat 0 l [] (by omega) rfl hsz)
        simp only [marquetryref16_nodes.j0]
        rw [if_neg (by decide)]
        rfl
      refine Ans.succ (fun k => ?_) hJ
      simp only [marquetryref16_nodes.f]
      rw [if_neg (by omega), if_neg (by omega), decide_eq_false (by omega)]
/-- What both tell. -/
def treeP : Option (ByteArray × List S62) → ByteArray × List S62 × Int
  | none => (⟨#[]⟩, [], 260)
  | some q => (q.1, q.2, 0)
def treeR : Option (ByteArray × List S62) → ByteArray × List S62 × Bool
  | none => (⟨#[]⟩, [], false)
  | some q => (q.1, q.2, true)
theorem dep_le {name : ByteArray} {ks : List S62} (h : checkB name ks = true) : dep ks ≤ 32 := by
  unfold checkB at h
  simp only [Bool.and_eq_true] at h
  obtain ⟨hi, -⟩ := fineN_is _ ks (Nat.le_refl _) 1 256 [] (by omega) (by omega)
  obtain ⟨_, h2, _⟩ := hi.1 h.2.2
  omega
theorem tree_both (l : List S43) (hl : l.length ≤ 300) (hsz : ∀ x ∈ l, x.f0.size ≤ 140737488351232) : ∃ r, schema_Tree.f l = some (treeP r) ∧ Ans (fun k => marquetryref16_Tree.f k l) (treeR r) := by
  have J : Ans (fun k => marquetryref16_Tree.j0 k l true) (treeR none) := by
    refine Ans.succ (g := fun _ => some ((⟨#[]⟩ : ByteArray), ([] : List S62), false)) (fun k => ?_) (Ans.const _)
    simp only [marquetryref16_Tree.j0]
    rw [if_pos trivial]
  by_cases h257 : l.length ≤ 257
  case neg =>
    refine ⟨none, by unfold schema_Tree.f; rw [if_neg h257]; rfl, Ans.congr (fun k => ?_) J⟩
    unfold marquetryref16_Tree.f
    rw [if_neg (by omega), if_pos (by omega)]
  case pos =>
  cases l with
  | nil =>
    refine ⟨none, by unfold schema_Tree.f; rw [if_pos h257]; rfl, Ans.congr (fun k => ?_) J⟩
    unfold marquetryref16_Tree.f
    rw [if_pos (show ((([] : List S43).length : Nat) : Int) = 0 from rfl)]
  | cons x l =>
    have er : rd_T43 (x :: l) 0 = x := rfl
    have hlen : ¬ ((x :: l).length : Int) = 0 := by simp only [List.length_cons]; omega
    have hlen1 : ¬ ((x :: l).length : Int) > 257 := by omega
    have hlen2 : 0 < ((x :: l).length : Int) := by simp only [List.length_cons]; omega
    have hlen3 : 1 ≤ ((x :: l).length : Int) := by simp only [List.length_cons]; omega
    have hl1 : ∀ y ∈ l, y.f0.size ≤ 140737488351232 := fun y hy => hsz y (List.mem_cons_of_mem _ hy)
    by_cases hh : x.f1 = 0 ∧ x.f3 = 0 ∧ x.f4 = 0
    case neg =>
      refine ⟨none, by unfold schema_Tree.f; rw [if_pos h257]; show (if x.f1 = 0 ∧ x.f3 = 0 ∧ x.f4 = 0 then _ else _) = _; rw [if_neg hh]; rfl, Ans.congr (fun k => ?_) J⟩
      unfold marquetryref16_Tree.f
      rw [if_neg hlen, if_neg hlen1, if_pos hlen2, er]
      by_cases f1 : x.f1 = 0
      · rw [if_pos f1]
        by_cases f3 : x.f3 = 0
        · rw [if_pos f3, show (x.f4 != 0) = true by simp; exact fun f4 => hh ⟨f1, f3, f4⟩]
        · rw [if_neg f3]
      · rw [if_neg f1]
    case pos =>
    have hN : Ans (fun k => marquetryref16_nodes.f k l x.f2 33) (ansN (nodesP 34 x.f2 l)) := nodes_ans 34 (by omega) x.f2 l hl1
    have hTf : ∀ r, Ans (fun k => marquetryref16_Tree.j0 k (x :: l) false) r → Ans (fun k => marquetryref16_Tree.f k (x :: l)) r := fun r h => by
      refine Ans.congr (fun k => ?_) h
      unfold marquetryref16_Tree.f
      rw [if_neg hlen, if_neg hlen1, if_pos hlen2, er, if_pos hh.1, if_pos hh.2.1, show (x.f4 != 0) = false by simp [hh.2.2]]
    have hJf : ∀ r, Ans (fun k => (marquetryref16_nodes.f k l x.f2 33).bind fun bt250 => (if bt250.2.2 = true then (if (bt250.2.1.length : Int) > 0 then (some ((⟨#[]⟩ : ByteArray), ([] : List S62), false)) else ((marquetryref16_Check.f k x.f0 bt250.1).bind fun t259 => (if t259 = true then (some (x.f0, bt250.1, true)) else (some ((⟨#[]⟩ : ByteArray), ([] : List S62), false))))) else (some ((⟨#[]⟩ : ByteArray), ([] : List S62), false)))) r → Ans (fun k => marquetryref16_Tree.f k (x :: l)) r := fun r h => by
      refine hTf r (Ans.succ (fun k => ?_) h)
      simp only [marquetryref16_Tree.j0]
      rw [if_neg (by decide), if_pos hlen3, if_pos hlen2, er]
      rfl
    -- the document's answer, behind its nodes
    have hR : ∀ (q : List S62 × List S43), nodesP 34 x.f2 l = some q → Sm q.1 → Ans (fun k => marquetryref16_Tree.f k (x :: l)) (treeR (if q.2.length = 0 ∧ checkB x.f0 q.1 = true then some (x.f0, q.1) else none)) := fun q hq hs => by
      rw [hq] at hN
      refine hJf _ (Ans.bind (g := fun k bt250 => (if bt250.2.2 = true then (if (bt250.2.1.length : Int) > 0 then (some ((⟨#[]⟩ : ByteArray), ([] : List S62), false)) else ((marquetryref16_Check.f k x.f0 bt250.1).bind fun t259 => (if t259 = true then (some (x.f0, bt250.1, true)) else (some ((⟨#[]⟩ : ByteArray), ([] : List S62), false))))) else (some ((⟨#[]⟩ : ByteArray), ([] : List S62), false)))) hN (Ans.pos rfl ?_))
      by_cases hr : q.2.length = 0
      · refine Ans.neg (show ¬ ((q.2.length : Int) > 0) by omega) (Ans.bind (g := fun _ t259 => (if t259 = true then (some (x.f0, q.1, true)) else (some ((⟨#[]⟩ : ByteArray), ([] : List S62), false)))) (check_ans x.f0 hs) ?_)
        by_cases hc : checkB x.f0 q.1 = true
        · rw [show (if q.2.length = 0 ∧ checkB x.f0 q.1 = true then some (x.f0, q.1) else none) = some (x.f0, q.1) from if_pos ⟨hr, hc⟩]
          exact Ans.pos hc (Ans.const _)
        · rw [show (if q.2.length = 0 ∧ checkB x.f0 q.1 = true then some (x.f0, q.1) else none) = none from if_neg (fun h => hc h.2)]
          exact Ans.neg hc (Ans.const _)
      · rw [show (if q.2.length = 0 ∧ checkB x.f0 q.1 = true then some (x.f0, q.1) else none) = none from if_neg (fun h => hr h.1)]
        exact Ans.pos (show (q.2.length : Int) > 0 by omega) (Ans.const _)
    have hP : ∀ r, (match nodesP 33 x.f2 l with
      | none => some ((⟨#[]⟩ : ByteArray), ([] : List S62), (260 : Int))
      | some (ks, rest) => if rest.length = 0 then (schema_Check.f x.f0 ks).bind fun e => if e = 0 then some (x.f0, ks, 0) else some (⟨#[]⟩, [], 260) else some (⟨#[]⟩, [], 260)) = r → schema_Tree.f (x :: l) = r := fun r h => by
      unfold schema_Tree.f
      rw [if_pos h257]
      show (if x.f1 = 0 ∧ x.f3 = 0 ∧ x.f4 = 0 then _ else _) = _
      rw [if_pos hh]
      exact h
    cases hnp : nodesP 33 x.f2 l with
    | none =>
      refine ⟨none, hP _ (by rw [hnp]; rfl), ?_⟩
      cases hnq : nodesP 34 x.f2 l with
      | none =>
        rw [hnq] at hN
        exact hJf _ (Ans.bind (g := fun k bt250 => (if bt250.2.2 = true then (if (bt250.2.1.length : Int) > 0 then (some ((⟨#[]⟩ : ByteArray), ([] : List S62), false)) else ((marquetryref16_Check.f k x.f0 bt250.1).bind fun t259 => (if t259 = true then (some (x.f0, bt250.1, true)) else (some ((⟨#[]⟩ : ByteArray), ([] : List S62), false))))) else (some ((⟨#[]⟩ : ByteArray), ([] : List S62), false)))) hN (Ans.neg (by simp [ansN]) (Ans.const _)))
      | some q =>
        have hok := nodes_ok _ _ _ _ hnq hl1
        have := hR q hnq hok.rm
        rw [if_neg (fun h => by
          have hd := dep_le h.2
          have := nodes_less 33 x.f2 l q.1 q.2 hnq (by omega)
          rw [hnp] at this
          cases this)] at this
        exact this
    | some q =>
      have hok := nodes_ok _ _ _ _ hnp hl1
      have hq := nodes_mono _ _ _ _ hnp
      have hck : schema_Check.f x.f0 q.1 = some (if checkB x.f0 q.1 = true then 0 else 2) := by
        unfold schema_Check.f checkB
        rw [if_pos hok.nm]
        congr 1
        by_cases h : nameB x.f0 = true ∧ q.1.length ≠ 0 ∧ (fineN q.1 1 256 []).1 = true
        · rw [if_pos h, if_pos (by rw [h.1, h.2.2, decide_eq_true h.2.1]; rfl)]
        · rw [if_neg h, if_neg]
          intro hh
          simp only [Bool.and_eq_true, decide_eq_true_eq] at hh
          exact h ⟨hh.1, hh.2.1, hh.2.2⟩
      refine ⟨_, hP _ ?_, hR q hq hok.rm⟩
      rw [hnp]
      show (if q.2.length = 0 then _ else _) = _
      by_cases hr : q.2.length = 0
      · rw [if_pos hr, hck, Option.bind_some]
        by_cases hc : checkB x.f0 q.1 = true
        · rw [if_pos hc, if_pos rfl, if_pos ⟨hr, hc⟩]
          rfl
        · rw [if_neg hc, if_neg (by decide), if_neg (fun h => hc h.2)]
          rfl
      · rw [if_neg hr, if_neg (fun h => hr h.1)]
        rfl
end Go.Proofs.YtjdjlccdidfgoaaDoor.TreAid
end
