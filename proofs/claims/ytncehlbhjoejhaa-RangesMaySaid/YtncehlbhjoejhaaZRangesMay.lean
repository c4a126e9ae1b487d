/- The claim's theorem: LawRangesMay. -/
import Derived.Below
import Derived.ChangeOld
import Derived.OpenShut
import Derived.ProofKit
import Derived.ShutString
import Derived.SizedLaws
import Derived.Test.YtncehlbhjoejhaaRows
import Derived.WalkKit
import Derived.Test.YtncehlbhjoejhaaZRangesMay29
section
-- Laid by this session's hprint.py: the row of a law. Not trusted: Lean checks it.
namespace Go.Proofs.Ytncehlbhjoejhaa.rangesMay
open Go.ChangeShapes Go.WideShapes Go.ChangeAt
open Go.RowKit Go.Proofs.YtncehlbhjoejhaaW.PrintWords Go.Proofs.YtncehlbhjoejhaaW.PrintLast Go.Proofs.YtncehlbhjoejhaaW.PrintMore Go.Proofs.Ytncehlbhjoejhaa.H Go.Proofs.YtncehlbhjoejhaaO
open Go.ChangeMaps (open_string shut_string)
set_option linter.unusedVariables false
theorem own : ownKnob Try.prog.godebug = none := by kernel_rfl
theorem laidOut : laidOutB Try.prog = true := by kernel_rfl
set_option maxRecDepth 100000 in
theorem lifted (os : Os) (started : os.Started) (H : Type) (enc : TypeId × Value → H) :
    ReturnsInHanded {} Try.checked os 6 .any (Rows.rangesMaySpec.pre6 enc Try.prog Try.f6 Rows.rangesMayRow.domain false) (Rows.rangesMaySpec.post enc Try.prog Try.f6 false true false false) := by
  refine returnsInHanded_of_change_sized (C := Try.checked) own started (by kernel_rfl) Try.func6
    (ChangeSpec.witness6 (enc := enc) (C := Try.checked) false ⟨#[], #[(.agg #[(.int .i64 0), (.int .i64 0), (.int .i64 0), (.string ⟨#[]⟩), (.int .i64 0)]), (.agg #[(.int .i64 0), (.int .i64 0)]), (.agg #[(.int .i64 0), (.bool false), (.string ⟨#[]⟩), (.string ⟨#[]⟩)])], []⟩ 8 (by kernel_rfl) (by kernel_rfl) (by kernel_rfl) (by kernel_rfl)) ?_
  intro W base args ds gs before hval0 hW hcnd hsz0 _
  have hsz : (DataW.weightsEach Try.prog (Try.f6.params.toList ++ Rows.rangesMaySpec.plain.varTypes Try.prog) (ds ++ gs)).all (· ≤ reachBytes) = true := hsz0
  have hval : ∀ (j : Nat) t v, Try.f6.params[j]? = some t → args[j]? = some v → Value.okWide Try.prog W .any base t v := hval0
  have hW' := hW
  obtain ⟨p, q, hA0, hV, rfl, hfz, hnd⟩ := hW
  have hA : DataW.TrodAll enc Try.prog W 0 (fun _ => true) true Try.f6.params.toList args.toList ds p := hA0
  rw [Try.params6] at hA hval hsz
  obtain ⟨v0, vs0, d0, ds0, p0, q0, hargs, rfl, rfl, h0, r0⟩ := trodAll_cons hA
  obtain ⟨v1, vs1, d1, ds1, p1, q1, rfl, rfl, rfl, h1, r1⟩ := trodAll_cons r0
  obtain ⟨v2, vs2, d2, ds2, p2, q2, rfl, rfl, rfl, h2, r2⟩ := trodAll_cons r1
  obtain ⟨rfl, rfl, rfl⟩ := trodAll_nil r2
  obtain rfl : args = #[v0, v1, v2] := by cases args; simp_all
  obtain ⟨rfl, rfl⟩ := trodVars_none hV
  have k0 := h0
  have lt0 : ∀ x ∈ p0, x.block < W.heap.size := by obtain ⟨m, hm⟩ := k0; exact DataW.trod_lt m _ _ _ hm
  have wt0 : ∀ m ∈ DataW.weights Try.prog 48 d0, m ≤ reachBytes := weights_ok hsz (j := 0) rfl rfl
  obtain ⟨cs0, rfl, hcs0⟩ := okWide_struct Try.underlying48 (hval 0 48 v0 rfl rfl)
  obtain ⟨y0, hK0, gy0⟩ : ∃ y, k48.K W y cs0.toList ∧ G48 y := by
    obtain ⟨fuel, hf⟩ := h0
    exact open48 fuel (Nat.le_refl _) hf wt0
  obtain he0 := k48_open hK0
  obtain rfl : cs0 = #[.int .i64 y0.f0, .int .i64 y0.f1.f0, .int .i64 y0.f1.f1, .string y0.f1.f2, .int .i64 y0.f2] := by cases cs0; simpa using he0
  have k1 := h1
  have lt1 : ∀ x ∈ p1, x.block < W.heap.size := by obtain ⟨m, hm⟩ := k1; exact DataW.trod_lt m _ _ _ hm
  have wt1 : ∀ m ∈ DataW.weights Try.prog 24 d1, m ≤ reachBytes := weights_ok hsz (j := 1) rfl rfl
  obtain ⟨cs1, rfl, hcs1⟩ := okWide_struct Try.underlying24 (hval 1 24 v1 rfl rfl)
  obtain ⟨y1, hK1, gy1⟩ : ∃ y, k24.K W y cs1.toList ∧ G24 y := by
    obtain ⟨fuel, hf⟩ := h1
    exact open24 fuel (Nat.le_refl _) hf wt1
  obtain he1 := k24_open hK1
  obtain rfl : cs1 = #[.int .i64 y1.f0, .int .i64 y1.f1] := by cases cs1; simpa using he1
  have k2 := h2
  have lt2 : ∀ x ∈ p2, x.block < W.heap.size := by obtain ⟨m, hm⟩ := k2; exact DataW.trod_lt m _ _ _ hm
  have wt2 : ∀ m ∈ DataW.weights Try.prog 31 d2, m ≤ reachBytes := weights_ok hsz (j := 2) rfl rfl
  obtain ⟨cs2, rfl, hcs2⟩ := okWide_struct Try.underlying31 (hval 2 31 v2 rfl rfl)
  obtain ⟨y2, hK2, gy2⟩ : ∃ y, k31.K W y cs2.toList ∧ G31 y := by
    obtain ⟨fuel, hf⟩ := h2
    exact open31 fuel (Nat.le_refl _) hf wt2
  obtain he2 := k31_open hK2
  obtain rfl : cs2 = #[.int .i64 y2.f0, .bool y2.f1, .string y2.f2, .string y2.f3] := by cases cs2; simpa using he2
  clear hA0 hval0 hsz0 hsz
  obtain ⟨k, hlaw⟩ := pure_ y0 y1 y2 gy0 gy1 gy2
  refine (marquetrylaw22_RangesMay.calls k y0.f0 y0.f1.f0 y0.f1.f1 y0.f1.f2 y0.f2 y1.f0 y1.f1 y2.f0 y2.f1 y2.f2 y2.f3 true W hlaw).mono fun e W' ⟨he, bel0⟩ => ?_
  have bel : Below W.heap.size W W' := bel0
  subst he
  exact ⟨_, rfl, _, _, _, [], _, [], hW', trodAll_mk1 (shut_bool Try.underlying4 _), (trodAll_cons_mk (Below.trod laidOut (by kernel_rfl) (of_decide_eq_true (by kernel_rfl)) k0 bel lt0) (trodAll_cons_mk (Below.trod laidOut (by kernel_rfl) (of_decide_eq_true (by kernel_rfl)) k1 bel lt1) (trodAll_cons_mk (Below.trod laidOut (by kernel_rfl) (of_decide_eq_true (by kernel_rfl)) k2 bel lt2) trodAll_mk0))), rfl, bel.frame _, fun h => by cases h⟩
theorem over : Rows.rangesMayRow.holds Try.pinned (OpenSpec.ofChange Rows.rangesMaySpec) :=
  OpenClaim.holds_of_wide 6 Try.f6 rfl rfl rfl rfl rfl rfl rfl ⟨rfl, rfl, rfl, rfl, rfl⟩ rfl rfl rfl rfl rfl (by kernel_rfl) Try.func6 (by kernel_rfl)
    (of_decide_eq_true (by kernel_rfl)) (by unfold Func.isWrapper; first | (rw [if_pos (by decide +kernel)]; kernel_rfl) | (rw [if_neg (by decide +kernel)]; exact ⟨rfl, rfl⟩))
    (fun os started H enc _ => lifted os started H enc)
theorem proved : Rows.RangesMaySaid := over
#print axioms proved
end Go.Proofs.Ytncehlbhjoejhaa.rangesMay
namespace Go.Proofs.Ytncehlbhjoejhaa
/-- The row, under a short name, for the claim. -/
theorem rangesMay_holds : Rows.RangesMaySaid := rangesMay.proved
end Go.Proofs.Ytncehlbhjoejhaa
end
