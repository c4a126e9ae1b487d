/- Texts of the claim, packed: SaySchemaTree. -/
import Derived.Test.YtjdjlccdidfgoaaDoorZSchemaTree5
import Derived.Test.YtjdjlccdidfgoaaDoorZSchemaTree19
section
-- Laid by this session's hprint.py: what is left to prove of a law. Not trusted: Lean checks it.
namespace Go.Proofs.YtjdjlccdidfgoaaDoor.schemaTree
open Go.RowKit Go.Proofs.YtjdjlccdidfgoaaDoorW.PrintWords Go.Proofs.YtjdjlccdidfgoaaDoorW.PrintLast Go.Proofs.YtjdjlccdidfgoaaDoorW.PrintMore Go.Proofs.YtjdjlccdidfgoaaDoor.H Go.Proofs.YtjdjlccdidfgoaaDoorO
set_option linter.unusedVariables false
def G43 (x : S43) : Prop := (fun s => s.size ≤ 140737488351232) x.f0 ∧ (fun x => (Lit.int .i64 x).wf = true) x.f1 ∧ (fun x => (Lit.int .i64 x).wf = true) x.f2 ∧ (fun x => (Lit.int .i64 x).wf = true) x.f3 ∧ (fun x => (Lit.int .i64 x).wf = true) x.f4
theorem open43 : ∀ n, Opens Tryd.prog k43 43 G43 n
  | 0 => Opens.zero _ _ _ _
  | n + 1 => by
    have h := OE.struct (n := n) Tryd.underlying43 (by kernel_rfl) (OFE.cons ⟨(Opens.string Tryd.underlying9) n⟩ rfl (by kernel_rfl) (OFE.cons ⟨(Opens.int Tryd.underlying40) n⟩ rfl (by kernel_rfl) (OFE.cons ⟨(Opens.int Tryd.underlying3) n⟩ rfl (by kernel_rfl) (OFE.cons ⟨(Opens.int Tryd.underlying41) n⟩ rfl (by kernel_rfl) (OFE.one ⟨(Opens.int Tryd.underlying3) n⟩ rfl (by kernel_rfl)))))) (fun x : S43 => (x.f0, x.f1, x.f2, x.f3, x.f4)) (fun y => (⟨y.1, y.2.1, y.2.2.1, y.2.2.2.1, y.2.2.2.2⟩ : S43)) (fun _ => rfl)
    exact h.out
def Pure : Prop := ∀ (y0 : List (S43)), (fun l => l.length ≤ maxLen ∧ l.length * 48 ≤ 140737488351232 ∧ ∀ x ∈ l, G43 x) y0 → ∃ k, marquetrylaw16_SchemaTree.f k y0 = some true
end Go.Proofs.YtjdjlccdidfgoaaDoor.schemaTree
end
