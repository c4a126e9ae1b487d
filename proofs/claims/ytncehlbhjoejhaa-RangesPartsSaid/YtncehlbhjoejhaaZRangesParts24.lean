/- Texts of the claim, packed: SayRangesParts. -/
import Derived.Test.YtncehlbhjoejhaaZRangesParts19
import Derived.Test.YtncehlbhjoejhaaZRangesParts23
section
-- Laid by this session's hprint.py: what is left to prove of a law. Not trusted: Lean checks it.
namespace Go.Proofs.Ytncehlbhjoejhaa.rangesParts
open Go.RowKit Go.Proofs.YtncehlbhjoejhaaW.PrintWords Go.Proofs.YtncehlbhjoejhaaW.PrintLast Go.Proofs.YtncehlbhjoejhaaW.PrintMore Go.Proofs.Ytncehlbhjoejhaa.H Go.Proofs.YtncehlbhjoejhaaO
set_option linter.unusedVariables false
def G24 (x : S24) : Prop := (fun x => (Lit.int .i64 x).wf = true) x.f0 ∧ (fun x => (Lit.int .i64 x).wf = true) x.f1
theorem open24 : ∀ n, Opens Try.prog k24 24 G24 n
  | 0 => Opens.zero _ _ _ _
  | n + 1 => by
    have h := OE.struct (n := n) Try.underlying24 (by kernel_rfl) (OFE.cons ⟨(Opens.int Try.underlying22) n⟩ rfl (by kernel_rfl) (OFE.one ⟨(Opens.int Try.underlying3) n⟩ rfl (by kernel_rfl))) (fun x : S24 => (x.f0, x.f1)) (fun y => (⟨y.1, y.2⟩ : S24)) (fun _ => rfl)
    exact h.out
def G29 (x : S29) : Prop := (fun x => (Lit.int .i64 x).wf = true) x.f0 ∧ (fun x => (Lit.int .i64 x).wf = true) x.f1 ∧ (fun s => s.size ≤ 140737488351232) x.f2
theorem open29 : ∀ n, Opens Try.prog k29 29 G29 n
  | 0 => Opens.zero _ _ _ _
  | n + 1 => by
    have h := OE.struct (n := n) Try.underlying29 (by kernel_rfl) (OFE.cons ⟨(Opens.int Try.underlying22) n⟩ rfl (by kernel_rfl) (OFE.cons ⟨(Opens.int Try.underlying2) n⟩ rfl (by kernel_rfl) (OFE.one ⟨(Opens.string Try.underlying9) n⟩ rfl (by kernel_rfl)))) (fun x : S29 => (x.f0, x.f1, x.f2)) (fun y => (⟨y.1, y.2.1, y.2.2⟩ : S29)) (fun _ => rfl)
    exact h.out
def Pure : Prop := ∀ (y0 : S24) (y1 : List (S29)) (y2 : Int), G24 y0 → (fun l => l.length ≤ maxLen ∧ l.length * 32 ≤ 140737488351232 ∧ ∀ x ∈ l, G29 x) y1 → (fun x => (Lit.int .i64 x).wf = true) y2 → ∃ k, marquetrylaw22_RangesParts.f k y0.f0 y0.f1 y1 y2 = some true
end Go.Proofs.Ytncehlbhjoejhaa.rangesParts
end
