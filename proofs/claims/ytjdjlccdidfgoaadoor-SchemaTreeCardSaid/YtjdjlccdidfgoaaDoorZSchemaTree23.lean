/- Texts of the claim, packed: PureSchemaTree. -/
import Derived.Test.YtjdjlccdidfgoaaDoorZSchemaTree20
import Derived.Test.YtjdjlccdidfgoaaDoorZSchemaTree21
import Derived.Test.YtjdjlccdidfgoaaDoorZSchemaTree22
section
/- A flat list is read as the schema whose it is, or refused, as the document says (SchemaTree), at every list. -/
namespace Go.Proofs.YtjdjlccdidfgoaaDoor.schemaTree
open Go.RowKit Go.Proofs.YtjdjlccdidfgoaaDoorW.PrintWords Go.Proofs.YtjdjlccdidfgoaaDoorW.PrintLast Go.Proofs.YtjdjlccdidfgoaaDoorW.PrintMore Go.Proofs.YtjdjlccdidfgoaaDoor.H Go.Proofs.YtjdjlccdidfgoaaDoorO Go.Proofs.YtjdjlccdidfgoaaDoor.SckAid Go.Proofs.YtjdjlccdidfgoaaDoor.SckCpy Go.Proofs.YtjdjlccdidfgoaaDoor.TreAid
set_option linter.unusedVariables false
set_option linter.unusedSimpArgs false
theorem pure_ : Pure := by
  intro l hl
  obtain ⟨_, _, hg⟩ := hl
  have hsz : ∀ x ∈ l, x.f0.size ≤ 140737488351232 := fun x hx => (hg x hx).1
  have hself : ∀ (a : ByteArray) (ks : List S62), marquetryref16_Same.f a ks a ks = some true := fun a ks => by
    unfold marquetryref16_Same.f
    rw [if_pos rfl]
    show some (sameN ks ks) = _
    rw [sameN_self _ _ (Nat.le_refl _)]
  by_cases h300 : (l.length : Int) > 300
  · exact ⟨0, by unfold marquetrylaw16_SchemaTree.f; rw [if_pos h300]⟩
  obtain ⟨r, hr1, hr2⟩ := tree_both l (by omega) hsz
  have hfin : Ans (fun k => marquetrylaw16_SchemaTree.f k l) true := by
    unfold marquetrylaw16_SchemaTree.f
    refine Ans.neg h300 ?_
    cases r with
    | none =>
      refine Ans.bind (f := fun _ => schema_Tree.f l) ⟨0, fun _ _ => hr1⟩ (Ans.bind hr2 ?_)
      refine Ans.neg (by simp [treeR]) (Ans.pos rfl ?_)
      exact ⟨0, fun _ _ => by show (marquetryref16_Same.f _ _ _ _).bind _ = _; rw [show marquetryref16_Same.f (treeP none).1 (treeP none).2.1 (⟨#[]⟩ : ByteArray) [] = some true from hself _ _]; rfl⟩
    | some q =>
      refine Ans.bind (f := fun _ => schema_Tree.f l) ⟨0, fun _ _ => hr1⟩ (Ans.bind hr2 ?_)
      refine Ans.pos rfl (Ans.pos rfl ?_)
      exact ⟨0, fun _ _ => by show (marquetryref16_Same.f _ _ _ _).bind _ = _; rw [show marquetryref16_Same.f (treeP (some q)).1 (treeP (some q)).2.1 (treeR (some q)).1 (treeR (some q)).2.1 = some true from hself _ _]; rfl⟩
  exact hfin.get
end Go.Proofs.YtjdjlccdidfgoaaDoor.schemaTree
end
