/- Plain aids for the laws of the check sum. -/
import Derived.Test.YtedmambdlkogdaaOpen
import Derived.Test.YtedmambdlkogdaaH4
import Derived.Test.YtedmambdlkogdaaH8
import Derived.Test.YtedmambdlkogdaaCrcPlain
namespace Go.Proofs.Ytedmambdlkogdaa.Aid
open Go.RowKit Go.Proofs.YtedmambdlkogdaaW.PrintWords Go.Proofs.YtedmambdlkogdaaW.PrintLast Go.Proofs.YtedmambdlkogdaaW.PrintMore Go.Proofs.Ytedmambdlkogdaa.H Go.Proofs.YtedmambdlkogdaaO Go.Proofs.YtedmambdlkogdaaC
theorem wf_u8 {x : Int} (h : (Lit.int .u8 x).wf = true) : 0 ≤ x ∧ x < 256 := by
  have hmin : IntKind.u8.min = 0 := rfl
  have hmax : IntKind.u8.max = 255 := rfl
  simp only [Lit.wf, Bool.and_eq_true, decide_eq_true_eq] at h
  omega
theorem wf_u32 {x : Int} (h : (Lit.int .u32 x).wf = true) : 0 ≤ x ∧ x < 4294967296 := by
  have hmin : IntKind.u32.min = 0 := rfl
  have hmax : IntKind.u32.max = 4294967295 := rfl
  simp only [Lit.wf, Bool.and_eq_true, decide_eq_true_eq] at h
  omega
/-- Bytes. -/
def By (l : List Int) : Prop := ∀ x ∈ l, 0 ≤ x ∧ x < 256
theorem by_wf {l : List Int} (h : ∀ x ∈ l, (fun x => (Lit.int .u8 x).wf = true) x) : By l := fun x hx => wf_u8 (h x hx)
theorem by_append {a b : List Int} (ha : By a) (hb : By b) : By (a ++ b) := fun x hx => by
  rcases List.mem_append.1 hx with h | h
  · exact ha x h
  · exact hb x h
theorem by_nat {l : List Int} (h : By l) : ∀ c ∈ l.map Int.toNat, c < 256 := by
  intro c hc
  obtain ⟨x, hx, rfl⟩ := List.mem_map.1 hc
  have := h x hx
  omega
theorem upd_ok {s : Nat} {l : List Int} (hs : s < 4294967296) (h : By l) : CrcPlain.upd s (l.map Int.toNat) < 4294967296 := CrcPlain.upd_lt _ hs (by_nat h)
theorem upd_some {a : Int} {l : List Int} (h0 : 0 ≤ a) (h1 : a < 4294967296) (h : By l) : sums_Update.f a l = some (updI a l) := sums_Update.f_some h0 h1 h
theorem crc_some {l : List Int} (h : By l) : sums_Crc.f l = some (updI 0 l) := by
  unfold sums_Crc.f
  rw [upd_some (by omega) (by omega) h]
  rfl
theorem updI_range (a : Int) (l : List Int) : 0 ≤ updI a l ∧ updI a l < 4294967296 := by
  unfold updI
  omega
theorem updI_nat (a : Int) {l : List Int} (h : By l) : 4294967295 - (updI a l).toNat = CrcPlain.upd (4294967295 - a.toNat) (l.map Int.toNat) := by
  have := upd_ok (s := 4294967295 - a.toNat) (by omega) h
  unfold updI
  omega
theorem updI_append (a : Int) {l m : List Int} (hl : By l) : updI (updI a l) m = updI a (l ++ m) := by
  have h := updI_nat a hl
  rw [show updI (updI a l) m = ((4294967295 - CrcPlain.upd (4294967295 - (updI a l).toNat) (m.map Int.toNat) : Nat) : Int) from rfl, h]
  unfold updI
  rw [List.map_append, CrcPlain.upd_append]
theorem bind_of {α β : Type} {o : Option α} {x : α} (h : o = some x) (f : α → Option β) : o.bind f = f x := by rw [h, Option.bind_some]
theorem works_some : marquetrylaw02_works.f = some true := rfl
end Go.Proofs.Ytedmambdlkogdaa.Aid
