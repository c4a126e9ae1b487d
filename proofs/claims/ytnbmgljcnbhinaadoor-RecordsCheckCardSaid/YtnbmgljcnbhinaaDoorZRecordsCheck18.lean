/- Texts of the claim, packed: SayRecordsCheck. -/
import Derived.Test.YtnbmgljcnbhinaaDoorZRecordsCheck5
import Derived.Test.YtnbmgljcnbhinaaDoorZRecordsCheck17
section
-- Laid by this session's hprint.py: what is left to prove of a law. Not trusted: Lean checks it.
namespace Go.Proofs.YtnbmgljcnbhinaaDoor.recordsCheck
open Go.RowKit Go.Proofs.YtnbmgljcnbhinaaDoorW.PrintWords Go.Proofs.YtnbmgljcnbhinaaDoorW.PrintLast Go.Proofs.YtnbmgljcnbhinaaDoorW.PrintMore Go.Proofs.YtnbmgljcnbhinaaDoor.H Go.Proofs.YtnbmgljcnbhinaaDoorO
set_option linter.unusedVariables false
def GU64 : Nat → S64 → Prop
  | 0, _ => False
  | n + 1, x => (fun s => s.size ≤ 140737488351232) x.f0 ∧ (fun x => (Lit.int .i64 x).wf = true) x.f1 ∧ (fun _ => True) x.f2 ∧ (fun x => (Lit.int .i64 x).wf = true) x.f3 ∧ (fun x => (Lit.int .i64 x).wf = true) x.f4 ∧ (fun l => l.length ≤ maxLen ∧ l.length * 72 ≤ 140737488351232 ∧ ∀ x ∈ l, GU64 n x) x.f5
def G64 (x : S64) : Prop := ∃ n, GU64 n x
theorem open64 : ∀ n, Opens Tryd.prog k64 64 G64 n := by
  unfold k64
  have h := OE.fix (P := Tryd.prog) (t := 64) (G := GU64) (hs := sz64) (hE := Kd.upto_E sub64) (fun n ih => OE.struct (n := n) Tryd.underlying64 (by kernel_rfl) (OFE.cons ⟨((Opens.string Tryd.underlying9) n)⟩ rfl (by kernel_rfl) (OFE.cons ⟨((Opens.int Tryd.underlying61) n)⟩ rfl (by kernel_rfl) (OFE.cons ⟨((Opens.bool Tryd.underlying4) n)⟩ rfl (by kernel_rfl) (OFE.cons ⟨((Opens.int Tryd.underlying62) n)⟩ rfl (by kernel_rfl) (OFE.cons ⟨((Opens.int Tryd.underlying3) n)⟩ rfl (by kernel_rfl) (OFE.one ⟨(Opens.slice_at (B := 72) Tryd.underlying22 (by rw [sz64]; kernel_rfl) (by kernel_rfl) n ih)⟩ rfl (by kernel_rfl))))))) (fun x : S64 => (x.f0, x.f1, x.f2, x.f3, x.f4, x.f5)) (fun y => (⟨y.1, y.2.1, y.2.2.1, y.2.2.2.1, y.2.2.2.2.1, y.2.2.2.2.2⟩ : S64)) (fun _ => rfl))
  exact fun n => (h n).out
def G24 (x : S24) : Prop := (fun s => s.size ≤ 140737488351232) x.f0 ∧ (fun l => l.length ≤ maxLen ∧ l.length * 72 ≤ 140737488351232 ∧ ∀ x ∈ l, G64 x) x.f1
theorem open24 : ∀ n, Opens Tryd.prog k24 24 G24 n
  | 0 => Opens.zero _ _ _ _
  | n + 1 => by
    have h := OE.struct (n := n) Tryd.underlying24 (by kernel_rfl) (OFE.cons ⟨(Opens.string Tryd.underlying9) n⟩ rfl (by kernel_rfl) (OFE.one ⟨(Opens.slice_ (B := 72) Tryd.underlying22 (by kernel_rfl) (by kernel_rfl) open64) n⟩ rfl (by kernel_rfl))) (fun x : S24 => (x.f0, x.f1)) (fun y => (⟨y.1, y.2⟩ : S24)) (fun _ => rfl)
    exact h.out
def G72 (x : S72) : Prop := (fun x => (Lit.int .i64 x).wf = true) x.f0 ∧ (fun x => (Lit.int .i64 x).wf = true) x.f1 ∧ (fun s => s.size ≤ 140737488351232) x.f2
theorem open72 : ∀ n, Opens Tryd.prog k72 72 G72 n
  | 0 => Opens.zero _ _ _ _
  | n + 1 => by
    have h := OE.struct (n := n) Tryd.underlying72 (by kernel_rfl) (OFE.cons ⟨(Opens.int Tryd.underlying62) n⟩ rfl (by kernel_rfl) (OFE.cons ⟨(Opens.int Tryd.underlying2) n⟩ rfl (by kernel_rfl) (OFE.one ⟨(Opens.string Tryd.underlying9) n⟩ rfl (by kernel_rfl)))) (fun x : S72 => (x.f0, x.f1, x.f2)) (fun y => (⟨y.1, y.2.1, y.2.2⟩ : S72)) (fun _ => rfl)
    exact h.out
def GU74 : Nat → S74 → Prop
  | 0, _ => False
  | n + 1, x => G72 x.f0 ∧ (fun l => l.length ≤ maxLen ∧ l.length * 24 ≤ 140737488351232 ∧ ∀ y ∈ l, (fun l => l.length ≤ maxLen ∧ l.length * 56 ≤ 140737488351232 ∧ ∀ x ∈ l, GU74 n x) y.f0) x.f1
def G74 (x : S74) : Prop := ∃ n, GU74 n x
theorem open74 : ∀ n, Opens Tryd.prog k74 74 G74 n := by
  unfold k74
  have h := OE.fix (P := Tryd.prog) (t := 74) (G := GU74) (hs := sz74) (hE := Kd.upto_E sub74) (fun n ih => OE.struct (n := n) Tryd.underlying74 (by kernel_rfl) (OFE.cons ⟨(open72 n)⟩ rfl (by kernel_rfl) (OFE.one ⟨(Opens.slice_at (B := 24) Tryd.underlying40 (by kernel_rfl) (by kernel_rfl) n (OE.struct_at Tryd.underlying70 (by kernel_rfl) (fun x : S70 => x.f0) (fun y => (⟨y⟩ : S70)) (fun _ => rfl) n (OFE.one ⟨Opens.slice_at (B := 56) Tryd.underlying68 (by rw [sz74]; kernel_rfl) (by kernel_rfl) n ih⟩ rfl (by kernel_rfl))))⟩ rfl (by kernel_rfl))) (fun x : S74 => (x.f0, x.f1)) (fun y => (⟨y.1, y.2⟩ : S74)) (fun _ => rfl))
  exact fun n => (h n).out
def G70 (x : S70) : Prop := (fun l => l.length ≤ maxLen ∧ l.length * 56 ≤ 140737488351232 ∧ ∀ x ∈ l, G74 x) x.f0
theorem open70 : ∀ n, Opens Tryd.prog k70 70 G70 n
  | 0 => Opens.zero _ _ _ _
  | n + 1 => by
    have h := OE.struct (n := n) Tryd.underlying70 (by kernel_rfl) (OFE.one ⟨(Opens.slice_ (B := 56) Tryd.underlying68 (by kernel_rfl) (by kernel_rfl) open74) n⟩ rfl (by kernel_rfl)) (fun x : S70 => x.f0) (fun y => (⟨y⟩ : S70)) (fun _ => rfl)
    exact h.out
def G42 (x : S42) : Prop := (fun l => l.length ≤ maxLen ∧ l.length * 24 ≤ 140737488351232 ∧ ∀ x ∈ l, G70 x) x.f0
theorem open42 : ∀ n, Opens Tryd.prog k42 42 G42 n
  | 0 => Opens.zero _ _ _ _
  | n + 1 => by
    have h := OE.struct (n := n) Tryd.underlying42 (by kernel_rfl) (OFE.one ⟨(Opens.slice_ (B := 24) Tryd.underlying40 (by kernel_rfl) (by kernel_rfl) open70) n⟩ rfl (by kernel_rfl)) (fun x : S42 => x.f0) (fun y => (⟨y⟩ : S42)) (fun _ => rfl)
    exact h.out
def Pure : Prop := ∀ (y0 : S24) (y1 : List (S42)), G24 y0 → (fun l => l.length ≤ maxLen ∧ l.length * 24 ≤ 140737488351232 ∧ ∀ x ∈ l, G42 x) y1 → ∃ k, marquetrylaw17_RecordsCheck.f k y0.f0 y0.f1 y1 = some true
end Go.Proofs.YtnbmgljcnbhinaaDoor.recordsCheck
end
