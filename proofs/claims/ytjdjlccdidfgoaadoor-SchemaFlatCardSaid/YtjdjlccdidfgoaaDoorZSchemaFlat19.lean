/- Texts of the claim, packed: SaySchemaFlat. -/
import Derived.Test.YtjdjlccdidfgoaaDoorZSchemaFlat15
import Derived.Test.YtjdjlccdidfgoaaDoorZSchemaFlat18
section
-- Laid by this session's hprint.py: what is left to prove of a law. Not trusted: Lean checks it.
namespace Go.Proofs.YtjdjlccdidfgoaaDoor.schemaFlat
open Go.RowKit Go.Proofs.YtjdjlccdidfgoaaDoorW.PrintWords Go.Proofs.YtjdjlccdidfgoaaDoorW.PrintLast Go.Proofs.YtjdjlccdidfgoaaDoorW.PrintMore Go.Proofs.YtjdjlccdidfgoaaDoor.H Go.Proofs.YtjdjlccdidfgoaaDoorO
set_option linter.unusedVariables false
def GU62 : Nat → S62 → Prop
  | 0, _ => False
  | n + 1, x => (fun s => s.size ≤ 140737488351232) x.f0 ∧ (fun x => (Lit.int .i64 x).wf = true) x.f1 ∧ (fun _ => True) x.f2 ∧ (fun x => (Lit.int .i64 x).wf = true) x.f3 ∧ (fun x => (Lit.int .i64 x).wf = true) x.f4 ∧ (fun l => l.length ≤ maxLen ∧ l.length * 72 ≤ 140737488351232 ∧ ∀ x ∈ l, GU62 n x) x.f5
def G62 (x : S62) : Prop := ∃ n, GU62 n x
theorem open62 : ∀ n, Opens Tryd.prog k62 62 G62 n := by
  unfold k62
  have h := OE.fix (P := Tryd.prog) (t := 62) (G := GU62) (hs := sz62) (hE := Kd.upto_E sub62) (fun n ih => OE.struct (n := n) Tryd.underlying62 (by kernel_rfl) (OFE.cons ⟨((Opens.string Tryd.underlying9) n)⟩ rfl (by kernel_rfl) (OFE.cons ⟨((Opens.int Tryd.underlying40) n)⟩ rfl (by kernel_rfl) (OFE.cons ⟨((Opens.bool Tryd.underlying4) n)⟩ rfl (by kernel_rfl) (OFE.cons ⟨((Opens.int Tryd.underlying41) n)⟩ rfl (by kernel_rfl) (OFE.cons ⟨((Opens.int Tryd.underlying3) n)⟩ rfl (by kernel_rfl) (OFE.one ⟨(Opens.slice_at (B := 72) Tryd.underlying22 (by rw [sz62]; kernel_rfl) (by kernel_rfl) n ih)⟩ rfl (by kernel_rfl))))))) (fun x : S62 => (x.f0, x.f1, x.f2, x.f3, x.f4, x.f5)) (fun y => (⟨y.1, y.2.1, y.2.2.1, y.2.2.2.1, y.2.2.2.2.1, y.2.2.2.2.2⟩ : S62)) (fun _ => rfl))
  exact fun n => (h n).out
def G24 (x : S24) : Prop := (fun s => s.size ≤ 140737488351232) x.f0 ∧ (fun l => l.length ≤ maxLen ∧ l.length * 72 ≤ 140737488351232 ∧ ∀ x ∈ l, G62 x) x.f1
theorem open24 : ∀ n, Opens Tryd.prog k24 24 G24 n
  | 0 => Opens.zero _ _ _ _
  | n + 1 => by
    have h := OE.struct (n := n) Tryd.underlying24 (by kernel_rfl) (OFE.cons ⟨(Opens.string Tryd.underlying9) n⟩ rfl (by kernel_rfl) (OFE.one ⟨(Opens.slice_ (B := 72) Tryd.underlying22 (by kernel_rfl) (by kernel_rfl) open62) n⟩ rfl (by kernel_rfl))) (fun x : S24 => (x.f0, x.f1)) (fun y => (⟨y.1, y.2⟩ : S24)) (fun _ => rfl)
    exact h.out
def Pure : Prop := ∀ (y0 : S24), G24 y0 → ∃ k, marquetrylaw16_SchemaFlat.f k y0.f0 y0.f1 = some true
end Go.Proofs.YtjdjlccdidfgoaaDoor.schemaFlat
end
