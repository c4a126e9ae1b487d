/- Texts of the claim, packed: SayShredSlice. -/
import Derived.Test.YteokhlpleimnbaaZShredSlice3
import Derived.Test.YteokhlpleimnbaaZShredSlice20
section
-- Laid by this session's hprint.py: what is left to prove of a law. Not trusted: Lean checks it.
namespace Go.Proofs.Yteokhlpleimnbaa.shredSlice
open Go.RowKit Go.Proofs.YteokhlpleimnbaaW.PrintWords Go.Proofs.YteokhlpleimnbaaW.PrintLast Go.Proofs.YteokhlpleimnbaaW.PrintMore Go.Proofs.Yteokhlpleimnbaa.H Go.Proofs.YteokhlpleimnbaaO
set_option linter.unusedVariables false
def GU56 : Nat → S56 → Prop
 | 0, _ => False
 | n + 1, x => (fun s => s.size ≤ 140737488351232) x.f0 ∧ (fun x => (Lit.int .i64 x).wf = true) x.f1 ∧ (fun _ => True) x.f2 ∧ (fun x => (Lit.int .i64 x).wf = true) x.f3 ∧ (fun x => (Lit.int .i64 x).wf = true) x.f4 ∧ (fun l => l.length ≤ maxLen ∧ l.length * 72 ≤ 140737488351232 ∧ ∀ x ∈ l, GU56 n x) x.f5
def G56 (x : S56) : Prop := ∃ n, GU56 n x
theorem open56 : ∀ n, Opens Try.prog k56 56 G56 n := by
 unfold k56
 have h := OE.fix (P := Try.prog) (t := 56) (G := GU56) (hs := sz56) (hE := Kd.upto_E sub56) (fun n ih => OE.struct (n := n) Try.underlying56 (by kernel_rfl) (OFE.cons ⟨((Opens.string Try.underlying9) n)⟩ rfl (by kernel_rfl) (OFE.cons ⟨((Opens.int Try.underlying54) n)⟩ rfl (by kernel_rfl) (OFE.cons ⟨((Opens.bool Try.underlying4) n)⟩ rfl (by kernel_rfl) (OFE.cons ⟨((Opens.int Try.underlying40) n)⟩ rfl (by kernel_rfl) (OFE.cons ⟨((Opens.int Try.underlying3) n)⟩ rfl (by kernel_rfl) (OFE.one ⟨(Opens.slice_at (B := 72) Try.underlying22 (by rw [sz56]; kernel_rfl) (by kernel_rfl) n ih)⟩ rfl (by kernel_rfl))))))) (fun x : S56 => (x.f0, x.f1, x.f2, x.f3, x.f4, x.f5)) (fun y => (⟨y.1, y.2.1, y.2.2.1, y.2.2.2.1, y.2.2.2.2.1, y.2.2.2.2.2⟩ : S56)) (fun _ => rfl))
 exact fun n => (h n).out
def G24 (x : S24) : Prop := (fun s => s.size ≤ 140737488351232) x.f0 ∧ (fun l => l.length ≤ maxLen ∧ l.length * 72 ≤ 140737488351232 ∧ ∀ x ∈ l, G56 x) x.f1
theorem open24 : ∀ n, Opens Try.prog k24 24 G24 n
 | 0 => Opens.zero _ _ _ _
 | n + 1 => by
  have h := OE.struct (n := n) Try.underlying24 (by kernel_rfl) (OFE.cons ⟨(Opens.string Try.underlying9) n⟩ rfl (by kernel_rfl) (OFE.one ⟨(Opens.slice_ (B := 72) Try.underlying22 (by kernel_rfl) (by kernel_rfl) open56) n⟩ rfl (by kernel_rfl))) (fun x : S24 => (x.f0, x.f1)) (fun y => (⟨y.1, y.2⟩ : S24)) (fun _ => rfl)
  exact h.out
def G58 (x : S58) : Prop := (fun x => (Lit.int .i64 x).wf = true) x.f0 ∧ (fun x => (Lit.int .i64 x).wf = true) x.f1 ∧ (fun s => s.size ≤ 140737488351232) x.f2
theorem open58 : ∀ n, Opens Try.prog k58 58 G58 n
 | 0 => Opens.zero _ _ _ _
 | n + 1 => by
  have h := OE.struct (n := n) Try.underlying58 (by kernel_rfl) (OFE.cons ⟨(Opens.int Try.underlying40) n⟩ rfl (by kernel_rfl) (OFE.cons ⟨(Opens.int Try.underlying2) n⟩ rfl (by kernel_rfl) (OFE.one ⟨(Opens.string Try.underlying9) n⟩ rfl (by kernel_rfl)))) (fun x : S58 => (x.f0, x.f1, x.f2)) (fun y => (⟨y.1, y.2.1, y.2.2⟩ : S58)) (fun _ => rfl)
  exact h.out
def G28 (x : S28) : Prop := (fun l => l.length ≤ maxLen ∧ l.length * 8 ≤ 140737488351232 ∧ ∀ x ∈ l, (fun x => (Lit.int .i64 x).wf = true) x) x.f0 ∧ (fun l => l.length ≤ maxLen ∧ l.length * 8 ≤ 140737488351232 ∧ ∀ x ∈ l, (fun x => (Lit.int .i64 x).wf = true) x) x.f1 ∧ (fun l => l.length ≤ maxLen ∧ l.length * 32 ≤ 140737488351232 ∧ ∀ x ∈ l, G58 x) x.f2
theorem open28 : ∀ n, Opens Try.prog k28 28 G28 n
 | 0 => Opens.zero _ _ _ _
 | n + 1 => by
  have h := OE.struct (n := n) Try.underlying28 (by kernel_rfl) (OFE.cons ⟨(Opens.slice_ (B := 8) Try.underlying25 (by kernel_rfl) (by kernel_rfl) (Opens.int Try.underlying3)) n⟩ rfl (by kernel_rfl) (OFE.cons ⟨(Opens.slice_ (B := 8) Try.underlying25 (by kernel_rfl) (by kernel_rfl) (Opens.int Try.underlying3)) n⟩ rfl (by kernel_rfl) (OFE.one ⟨(Opens.slice_ (B := 32) Try.underlying26 (by kernel_rfl) (by kernel_rfl) open58) n⟩ rfl (by kernel_rfl)))) (fun x : S28 => (x.f0, x.f1, x.f2)) (fun y => (⟨y.1, y.2.1, y.2.2⟩ : S28)) (fun _ => rfl)
  exact h.out
def G30 (x : S30) : Prop := G28 x.f0 ∧ G28 x.f1 ∧ (fun x => (Lit.int .i64 x).wf = true) x.f2 ∧ (fun x => (Lit.int .i64 x).wf = true) x.f3
theorem open30 : ∀ n, Opens Try.prog k30 30 G30 n
 | 0 => Opens.zero _ _ _ _
 | n + 1 => by
  have h := OE.struct (n := n) Try.underlying30 (by kernel_rfl) (OFE.cons ⟨open28 n⟩ rfl (by kernel_rfl) (OFE.cons ⟨open28 n⟩ rfl (by kernel_rfl) (OFE.cons ⟨(Opens.int Try.underlying3) n⟩ rfl (by kernel_rfl) (OFE.one ⟨(Opens.int Try.underlying3) n⟩ rfl (by kernel_rfl))))) (fun x : S30 => (x.f0, x.f1, x.f2, x.f3)) (fun y => (⟨y.1, y.2.1, y.2.2.1, y.2.2.2⟩ : S30)) (fun _ => rfl)
  exact h.out
def Pure : Prop := ∀ (y0 : S24) (y1 : Int) (y2 : S30), G24 y0 → (fun x => (Lit.int .i64 x).wf = true) y1 → G30 y2 → ∃ k, l18_ShredSlice.f k y0.f0 y0.f1 y1 y2.f0.f0 y2.f0.f1 y2.f0.f2 y2.f1.f0 y2.f1.f1 y2.f1.f2 y2.f2 y2.f3 = some true
end Go.Proofs.Yteokhlpleimnbaa.shredSlice
end
