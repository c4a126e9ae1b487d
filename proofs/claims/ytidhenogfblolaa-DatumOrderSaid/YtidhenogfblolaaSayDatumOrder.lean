-- Laid by this session's hprint.py: what is left to prove of a law. Not trusted: Lean checks it.
import Derived.Test.YtidhenogfblolaaOpen
import Derived.Test.YtidhenogfblolaaH46
namespace Go.Proofs.Ytidhenogfblolaa.datumOrder
open Go.RowKit Go.Proofs.YtidhenogfblolaaW.PrintWords Go.Proofs.YtidhenogfblolaaW.PrintLast Go.Proofs.YtidhenogfblolaaW.PrintMore Go.Proofs.Ytidhenogfblolaa.H Go.Proofs.YtidhenogfblolaaO
set_option linter.unusedVariables false
def G31 (x : S31) : Prop := (fun x => (Lit.int .i64 x).wf = true) x.f0 ∧ (fun x => (Lit.int .i64 x).wf = true) x.f1 ∧ (fun s => s.size ≤ 140737488351232) x.f2
theorem open31 : ∀ n, Opens Try.prog k31 31 G31 n
  | 0 => Opens.zero _ _ _ _
  | n + 1 => by
    have h := OE.struct (n := n) Try.underlying31 (by kernel_rfl) (OFE.cons ⟨(Opens.int Try.underlying22) n⟩ rfl (by kernel_rfl) (OFE.cons ⟨(Opens.int Try.underlying2) n⟩ rfl (by kernel_rfl) (OFE.one ⟨(Opens.string Try.underlying9) n⟩ rfl (by kernel_rfl)))) (fun x : S31 => (x.f0, x.f1, x.f2)) (fun y => (⟨y.1, y.2.1, y.2.2⟩ : S31)) (fun _ => rfl)
    exact h.out
def Pure : Prop := ∀ (y0 : S31) (y1 : S31) (y2 : S31), G31 y0 → G31 y1 → G31 y2 → ∃ k, marquetrylaw09_DatumOrder.f k y0.f0 y0.f1 y0.f2 y1.f0 y1.f1 y1.f2 y2.f0 y2.f1 y2.f2 = some true
end Go.Proofs.Ytidhenogfblolaa.datumOrder
