/- Texts of the claim, packed: SayRangesMay. -/
import Derived.Test.YtncehlbhjoejhaaZRangesMay24
import Derived.Test.YtncehlbhjoejhaaZRangesMay25
section
-- Laid by this session's hprint.py: what is left to prove of a law. Not trusted: Lean checks it.
namespace Go.Proofs.Ytncehlbhjoejhaa.rangesMay
open Go.RowKit Go.Proofs.YtncehlbhjoejhaaW.PrintWords Go.Proofs.YtncehlbhjoejhaaW.PrintLast Go.Proofs.YtncehlbhjoejhaaW.PrintMore Go.Proofs.Ytncehlbhjoejhaa.H Go.Proofs.YtncehlbhjoejhaaO
set_option linter.unusedVariables false
def G29 (x : S29) : Prop := (fun x => (Lit.int .i64 x).wf = true) x.f0 ∧ (fun x => (Lit.int .i64 x).wf = true) x.f1 ∧ (fun s => s.size ≤ 140737488351232) x.f2
theorem open29 : ∀ n, Opens Try.prog k29 29 G29 n
  | 0 => Opens.zero _ _ _ _
  | n + 1 => by
    have h := OE.struct (n := n) Try.underlying29 (by kernel_rfl) (OFE.cons ⟨(Opens.int Try.underlying22) n⟩ rfl (by kernel_rfl) (OFE.cons ⟨(Opens.int Try.underlying2) n⟩ rfl (by kernel_rfl) (OFE.one ⟨(Opens.string Try.underlying9) n⟩ rfl (by kernel_rfl)))) (fun x : S29 => (x.f0, x.f1, x.f2)) (fun y => (⟨y.1, y.2.1, y.2.2⟩ : S29)) (fun _ => rfl)
    exact h.out
def G48 (x : S48) : Prop := (fun x => (Lit.int .i64 x).wf = true) x.f0 ∧ G29 x.f1 ∧ (fun x => (Lit.int .i64 x).wf = true) x.f2
theorem open48 : ∀ n, Opens Try.prog k48 48 G48 n
  | 0 => Opens.zero _ _ _ _
  | n + 1 => by
    have h := OE.struct (n := n) Try.underlying48 (by kernel_rfl) (OFE.cons ⟨(Opens.int Try.underlying46) n⟩ rfl (by kernel_rfl) (OFE.cons ⟨open29 n⟩ rfl (by kernel_rfl) (OFE.one ⟨(Opens.int Try.underlying3) n⟩ rfl (by kernel_rfl)))) (fun x : S48 => (x.f0, x.f1, x.f2)) (fun y => (⟨y.1, y.2.1, y.2.2⟩ : S48)) (fun _ => rfl)
    exact h.out
def G24 (x : S24) : Prop := (fun x => (Lit.int .i64 x).wf = true) x.f0 ∧ (fun x => (Lit.int .i64 x).wf = true) x.f1
theorem open24 : ∀ n, Opens Try.prog k24 24 G24 n
  | 0 => Opens.zero _ _ _ _
  | n + 1 => by
    have h := OE.struct (n := n) Try.underlying24 (by kernel_rfl) (OFE.cons ⟨(Opens.int Try.underlying22) n⟩ rfl (by kernel_rfl) (OFE.one ⟨(Opens.int Try.underlying3) n⟩ rfl (by kernel_rfl))) (fun x : S24 => (x.f0, x.f1)) (fun y => (⟨y.1, y.2⟩ : S24)) (fun _ => rfl)
    exact h.out
def G31 (x : S31) : Prop := (fun x => (Lit.int .i64 x).wf = true) x.f0 ∧ (fun _ => True) x.f1 ∧ (fun s => s.size ≤ 140737488351232) x.f2 ∧ (fun s => s.size ≤ 140737488351232) x.f3
theorem open31 : ∀ n, Opens Try.prog k31 31 G31 n
  | 0 => Opens.zero _ _ _ _
  | n + 1 => by
    have h := OE.struct (n := n) Try.underlying31 (by kernel_rfl) (OFE.cons ⟨(Opens.int Try.underlying3) n⟩ rfl (by kernel_rfl) (OFE.cons ⟨(Opens.bool Try.underlying4) n⟩ rfl (by kernel_rfl) (OFE.cons ⟨(Opens.string Try.underlying9) n⟩ rfl (by kernel_rfl) (OFE.one ⟨(Opens.string Try.underlying9) n⟩ rfl (by kernel_rfl))))) (fun x : S31 => (x.f0, x.f1, x.f2, x.f3)) (fun y => (⟨y.1, y.2.1, y.2.2.1, y.2.2.2⟩ : S31)) (fun _ => rfl)
    exact h.out
def Pure : Prop := ∀ (y0 : S48) (y1 : S24) (y2 : S31), G48 y0 → G24 y1 → G31 y2 → ∃ k, marquetrylaw22_RangesMay.f k y0.f0 y0.f1.f0 y0.f1.f1 y0.f1.f2 y0.f2 y1.f0 y1.f1 y2.f0 y2.f1 y2.f2 y2.f3 = some true
end Go.Proofs.Ytncehlbhjoejhaa.rangesMay
end
