/- The claim's theorem: LawShredSlice. -/
import Derived.Below
import Derived.ChangeOld
import Derived.OpenShut
import Derived.ProofKit
import Derived.ShutString
import Derived.SizedLaws
import Derived.Test.YteokhlpleimnbaaRows
import Derived.WalkKit
import Derived.Test.YteokhlpleimnbaaZShredSlice24
section
-- Laid by this session's hprint.py: the row of a law. Not trusted: Lean checks it.
namespace Go.Proofs.Yteokhlpleimnbaa.shredSlice
open Go.ChangeShapes Go.WideShapes Go.ChangeAt
open Go.RowKit Go.Proofs.YteokhlpleimnbaaW.PrintWords Go.Proofs.YteokhlpleimnbaaW.PrintLast Go.Proofs.YteokhlpleimnbaaW.PrintMore Go.Proofs.Yteokhlpleimnbaa.H Go.Proofs.YteokhlpleimnbaaO
open Go.ChangeMaps (open_string shut_string)
set_option linter.unusedVariables false
theorem own : ownKnob Try.prog.godebug = none := by kernel_rfl
theorem laidOut : laidOutB Try.prog = true := by kernel_rfl
set_option maxRecDepth 100000 in
theorem lifted (os : Os) (started : os.Started) (H : Type) (enc : TypeId × Value → H) :
  ReturnsInHanded {} Try.checked os 3 .any (Rows.shredSliceSpec.pre6 enc Try.prog Try.f3 Rows.shredSliceRow.domain false) (Rows.shredSliceSpec.post enc Try.prog Try.f3 false true false false) := by
 refine returnsInHanded_of_change_sized (C := Try.checked) own started (by kernel_rfl) Try.func3
  (ChangeSpec.witness6 (enc := enc) (C := Try.checked) false ⟨#[], #[(.agg #[(.string ⟨#[]⟩), (.slice none 0 0)]), .int .i64 0, (.agg #[(.slice none 0 0), (.slice none 0 0), (.slice none 0 0), (.slice none 0 0), (.slice none 0 0), (.slice none 0 0), (.int .i64 0), (.int .i64 0)])], []⟩ 8 (by kernel_rfl) (by kernel_rfl) (by kernel_rfl) (by kernel_rfl)) ?_
 intro W base args ds gs before hval0 hW hcnd hsz0 _
 have hsz : (DataW.weightsEach Try.prog (Try.f3.params.toList ++ Rows.shredSliceSpec.plain.varTypes Try.prog) (ds ++ gs)).all (· ≤ reachBytes) = true := hsz0
 have hval : ∀ (j : Nat) t v, Try.f3.params[j]? = some t → args[j]? = some v → Value.okWide Try.prog W .any base t v := hval0
 have hW' := hW
 obtain ⟨p, q, hA0, hV, rfl, hfz, hnd⟩ := hW
 have hA : DataW.TrodAll enc Try.prog W 0 (fun _ => true) true Try.f3.params.toList args.toList ds p := hA0
 rw [Try.params3] at hA hval hsz
 obtain ⟨v0, vs0, d0, ds0, p0, q0, hargs, rfl, rfl, h0, r0⟩ := trodAll_cons hA
 obtain ⟨v1, vs1, d1, ds1, p1, q1, rfl, rfl, rfl, h1, r1⟩ := trodAll_cons r0
 obtain ⟨v2, vs2, d2, ds2, p2, q2, rfl, rfl, rfl, h2, r2⟩ := trodAll_cons r1
 obtain ⟨rfl, rfl, rfl⟩ := trodAll_nil r2
 obtain rfl : args = #[v0, v1, v2] := by cases args; simp_all
 obtain ⟨rfl, rfl⟩ := trodVars_none hV
 have k0 := h0
 have lt0 : ∀ x ∈ p0, x.block < W.heap.size := by obtain ⟨m, hm⟩ := k0; exact DataW.trod_lt m _ _ _ hm
 have wt0 : ∀ m ∈ DataW.weights Try.prog 24 d0, m ≤ reachBytes := weights_ok hsz (j := 0) rfl rfl
 obtain ⟨cs0, rfl, hcs0⟩ := okWide_struct Try.underlying24 (hval 0 24 v0 rfl rfl)
 obtain ⟨y0, hK0, gy0⟩ : ∃ y, k24.K W y cs0.toList ∧ G24 y := by
  obtain ⟨fuel, hf⟩ := h0
  exact open24 fuel (Nat.le_refl _) hf wt0
 obtain ⟨A0_1, c0_1, he0, hc0_1, hr0_1⟩ := k24_open hK0
 obtain rfl : cs0 = #[.string y0.f0, .slice A0_1 y0.f1.length c0_1] := by cases cs0; simpa using he0
 obtain ⟨y1, rfl, rfl, rfl, gy1⟩ := open_int Try.underlying3 (hval 1 3 v1 rfl rfl) h1
 have k2 := h2
 have lt2 : ∀ x ∈ p2, x.block < W.heap.size := by obtain ⟨m, hm⟩ := k2; exact DataW.trod_lt m _ _ _ hm
 have wt2 : ∀ m ∈ DataW.weights Try.prog 30 d2, m ≤ reachBytes := weights_ok hsz (j := 2) rfl rfl
 obtain ⟨cs2, rfl, hcs2⟩ := okWide_struct Try.underlying30 (hval 2 30 v2 rfl rfl)
 obtain ⟨y2, hK2, gy2⟩ : ∃ y, k30.K W y cs2.toList ∧ G30 y := by
  obtain ⟨fuel, hf⟩ := h2
  exact open30 fuel (Nat.le_refl _) hf wt2
 obtain ⟨A2_0, c2_0, A2_1, c2_1, A2_2, c2_2, A2_3, c2_3, A2_4, c2_4, A2_5, c2_5, he2, hc2_0, hr2_0, hc2_1, hr2_1, hc2_2, hr2_2, hc2_3, hr2_3, hc2_4, hr2_4, hc2_5, hr2_5⟩ := k30_open hK2
 obtain rfl : cs2 = #[.slice A2_0 y2.f0.f0.length c2_0, .slice A2_1 y2.f0.f1.length c2_1, .slice A2_2 y2.f0.f2.length c2_2, .slice A2_3 y2.f1.f0.length c2_3, .slice A2_4 y2.f1.f1.length c2_4, .slice A2_5 y2.f1.f2.length c2_5, .int .i64 y2.f2, .int .i64 y2.f3] := by cases cs2; simpa using he2
 clear hA0 hval0 hsz0 hsz
 obtain ⟨k, hlaw⟩ := pure_ y0 y1 y2 gy0 gy1 gy2
 refine (l18_ShredSlice.calls k y0.f0 _ _ y0.f1 y1 _ _ y2.f0.f0 _ _ y2.f0.f1 _ _ y2.f0.f2 _ _ y2.f1.f0 _ _ y2.f1.f1 _ _ y2.f1.f2 y2.f2 y2.f3 true W hr0_1 hc0_1 hr2_0 hc2_0 hr2_1 hc2_1 hr2_2 hc2_2 hr2_3 hc2_3 hr2_4 hc2_4 hr2_5 hc2_5 hlaw).mono fun e W' ⟨he, bel0⟩ => ?_
 have bel : Below W.heap.size W W' := bel0
 subst he
 exact ⟨_, rfl, _, _, _, [], _, [], hW', trodAll_mk1 (shut_bool Try.underlying4 _), (trodAll_cons_mk (Below.trod laidOut (by kernel_rfl) (of_decide_eq_true (by kernel_rfl)) k0 bel lt0) (trodAll_cons_mk (shut_int Try.underlying3 gy1) (trodAll_cons_mk (Below.trod laidOut (by kernel_rfl) (of_decide_eq_true (by kernel_rfl)) k2 bel lt2) trodAll_mk0))), rfl, bel.frame _, fun h => by cases h⟩
theorem over : Rows.shredSliceRow.holds Try.pinned (OpenSpec.ofChange Rows.shredSliceSpec) :=
 OpenClaim.holds_of_wide 3 Try.f3 rfl rfl rfl rfl rfl rfl rfl ⟨rfl, rfl, rfl, rfl, rfl⟩ rfl rfl rfl rfl rfl (by kernel_rfl) Try.func3 (by kernel_rfl)
  (of_decide_eq_true (by kernel_rfl)) (by unfold Func.isWrapper; first | (rw [if_pos (by decide +kernel)]; kernel_rfl) | (rw [if_neg (by decide +kernel)]; exact ⟨rfl, rfl⟩))
  (fun os started H enc _ => lifted os started H enc)
theorem proved : Rows.ShredSliceSaid := over
#print axioms proved
end Go.Proofs.Yteokhlpleimnbaa.shredSlice
namespace Go.Proofs.Yteokhlpleimnbaa
theorem shredSlice_holds : Rows.ShredSliceSaid := shredSlice.proved
end Go.Proofs.Yteokhlpleimnbaa
end
