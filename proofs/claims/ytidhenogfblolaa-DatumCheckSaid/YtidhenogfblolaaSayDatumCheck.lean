-- Laid by this session's hprint.py: what is left to prove of a law. Not trusted: Lean checks it.
import Derived.Test.YtidhenogfblolaaOpen
import Derived.Test.YtidhenogfblolaaH5
namespace Go.Proofs.Ytidhenogfblolaa.datumCheck
open Go.RowKit Go.Proofs.YtidhenogfblolaaW.PrintWords Go.Proofs.YtidhenogfblolaaW.PrintLast Go.Proofs.YtidhenogfblolaaW.PrintMore Go.Proofs.Ytidhenogfblolaa.H Go.Proofs.YtidhenogfblolaaO
set_option linter.unusedVariables false
def G24 (x : S24) : Prop := (fun x => (Lit.int .i64 x).wf = true) x.f0 ∧ (fun x => (Lit.int .i64 x).wf = true) x.f1
theorem open24 : ∀ n, Opens Try.prog k24 24 G24 n
  | 0 => Opens.zero _ _ _ _
  | n + 1 => by
    have h := OE.struct (n := n) Try.underlying24 (by kernel_rfl) (OFE.cons ⟨(Opens.int Try.underlying22) n⟩ rfl (by kernel_rfl) (OFE.one ⟨(Opens.int Try.underlying3) n⟩ rfl (by kernel_rfl))) (fun x : S24 => (x.f0, x.f1)) (fun y => (⟨y.1, y.2⟩ : S24)) (fun _ => rfl)
    exact h.out
def Pure : Prop := ∀ (y0 : S24), G24 y0 → ∃ k, marquetrylaw09_DatumCheck.f k y0.f0 y0.f1 = some true
end Go.Proofs.Ytidhenogfblolaa.datumCheck
