/- The claim's theorem: LawRecordsSame. -/
import Derived.Below
import Derived.ChangeOld
import Derived.OpenShut
import Derived.ProofKit
import Derived.ShutString
import Derived.SizedLaws
import Derived.Test.YtnbmgljcnbhinaaRows
import Derived.WalkKit
import Derived.Test.YtnbmgljcnbhinaaZRecordsSame11
section
-- Laid by this session's hprint.py: the row of a law. Not trusted: Lean checks it.
namespace Go.Proofs.Ytnbmgljcnbhinaa.recordsSame
open Go.ChangeShapes Go.WideShapes Go.ChangeAt
open Go.RowKit Go.Proofs.YtnbmgljcnbhinaaW.PrintWords Go.Proofs.YtnbmgljcnbhinaaW.PrintLast Go.Proofs.YtnbmgljcnbhinaaW.PrintMore Go.Proofs.Ytnbmgljcnbhinaa.H Go.Proofs.YtnbmgljcnbhinaaO
open Go.ChangeMaps (open_string shut_string)
set_option linter.unusedVariables false
theorem own : ownKnob Try.prog.godebug = none := by kernel_rfl
theorem laidOut : laidOutB Try.prog = true := by kernel_rfl
set_option maxRecDepth 100000 in
theorem lifted (os : Os) (started : os.Started) (H : Type) (enc : TypeId × Value → H) :
  ReturnsInHanded {} Try.checked os 3 .any (Rows.recordsSameSpec.pre6 enc Try.prog Try.f3 Rows.recordsSameRow.domain false) (Rows.recordsSameSpec.post enc Try.prog Try.f3 false true false false) := by
 refine returnsInHanded_of_change_sized (C := Try.checked) own started (by kernel_rfl) Try.func3
  (ChangeSpec.witness6 (enc := enc) (C := Try.checked) false ⟨#[], #[.slice none 0 0, .slice none 0 0], []⟩ 8 (by kernel_rfl) (by kernel_rfl) (by kernel_rfl) (by kernel_rfl)) ?_
 intro W base args ds gs before hval0 hW hcnd hsz0 _
 have hsz : (DataW.weightsEach Try.prog (Try.f3.params.toList ++ Rows.recordsSameSpec.plain.varTypes Try.prog) (ds ++ gs)).all (· ≤ reachBytes) = true := hsz0
 have hval : ∀ (j : Nat) t v, Try.f3.params[j]? = some t → args[j]? = some v → Value.okWide Try.prog W .any base t v := hval0
 have hW' := hW
 obtain ⟨p, q, hA0, hV, rfl, hfz, hnd⟩ := hW
 have hA : DataW.TrodAll enc Try.prog W 0 (fun _ => true) true Try.f3.params.toList args.toList ds p := hA0
 rw [Try.params3] at hA hval hsz
 obtain ⟨v0, vs0, d0, ds0, p0, q0, hargs, rfl, rfl, h0, r0⟩ := trodAll_cons hA
 obtain ⟨v1, vs1, d1, ds1, p1, q1, rfl, rfl, rfl, h1, r1⟩ := trodAll_cons r0
 obtain ⟨rfl, rfl, rfl⟩ := trodAll_nil r1
 obtain rfl : args = #[v0, v1] := by cases args; simp_all
 obtain ⟨rfl, rfl⟩ := trodVars_none hV
 have k0 := h0
 have lt0 : ∀ x ∈ p0, x.block < W.heap.size := by obtain ⟨m, hm⟩ := k0; exact DataW.trod_lt m _ _ _ hm
 have wt0 : ∀ m ∈ DataW.weights Try.prog 22 d0, m ≤ reachBytes := weights_ok hsz (j := 0) rfl rfl
 obtain ⟨a0, len0, cap0, rfl⟩ := okWide_slice Try.underlying22 (hval 0 22 v0 rfl rfl)
 obtain ⟨y0, ⟨hr0, hc0⟩, gy0⟩ : ∃ y : List (S29), ((k29).C W a0 y.length y ∧ y.length ≤ cap0 ∧ len0 = y.length) ∧ (fun l => l.length ≤ maxLen ∧ l.length * 24 ≤ 140737488351232 ∧ ∀ x ∈ l, G29 x) y := by
  obtain ⟨fuel, hf⟩ := h0
  obtain ⟨y, hK, hG⟩ := (Opens.slice_ (B := 24) Try.underlying22 (by kernel_rfl) (by kernel_rfl) open29) fuel (Nat.le_refl _) hf wt0
  obtain ⟨A, c, he, hl, hC⟩ := hK
  simp [Value.cells] at he
  obtain ⟨rfl, rfl, rfl⟩ := he
  exact ⟨y, ⟨hC, hl, rfl⟩, hG⟩
 obtain ⟨hc0, rfl⟩ := hc0
 have k1 := h1
 have lt1 : ∀ x ∈ p1, x.block < W.heap.size := by obtain ⟨m, hm⟩ := k1; exact DataW.trod_lt m _ _ _ hm
 have wt1 : ∀ m ∈ DataW.weights Try.prog 22 d1, m ≤ reachBytes := weights_ok hsz (j := 1) rfl rfl
 obtain ⟨a1, len1, cap1, rfl⟩ := okWide_slice Try.underlying22 (hval 1 22 v1 rfl rfl)
 obtain ⟨y1, ⟨hr1, hc1⟩, gy1⟩ : ∃ y : List (S29), ((k29).C W a1 y.length y ∧ y.length ≤ cap1 ∧ len1 = y.length) ∧ (fun l => l.length ≤ maxLen ∧ l.length * 24 ≤ 140737488351232 ∧ ∀ x ∈ l, G29 x) y := by
  obtain ⟨fuel, hf⟩ := h1
  obtain ⟨y, hK, hG⟩ := (Opens.slice_ (B := 24) Try.underlying22 (by kernel_rfl) (by kernel_rfl) open29) fuel (Nat.le_refl _) hf wt1
  obtain ⟨A, c, he, hl, hC⟩ := hK
  simp [Value.cells] at he
  obtain ⟨rfl, rfl, rfl⟩ := he
  exact ⟨y, ⟨hC, hl, rfl⟩, hG⟩
 obtain ⟨hc1, rfl⟩ := hc1
 clear hA0 hval0 hsz0 hsz
 obtain ⟨k, hlaw⟩ := pure_ y0 y1 gy0 gy1
 refine (l17_RecordsSame.calls k _ _ y0 _ _ y1 true W hr0 hc0 hr1 hc1 hlaw).mono fun e W' ⟨he, bel0⟩ => ?_
 have bel : Below W.heap.size W W' := bel0
 subst he
 exact ⟨_, rfl, _, _, _, [], _, [], hW', trodAll_mk1 (shut_bool Try.underlying4 _), (trodAll_cons_mk (Below.trod laidOut (by kernel_rfl) (of_decide_eq_true (by kernel_rfl)) k0 bel lt0) (trodAll_cons_mk (Below.trod laidOut (by kernel_rfl) (of_decide_eq_true (by kernel_rfl)) k1 bel lt1) trodAll_mk0)), rfl, bel.frame _, fun h => by cases h⟩
theorem over : Rows.recordsSameRow.holds Try.pinned (OpenSpec.ofChange Rows.recordsSameSpec) :=
 OpenClaim.holds_of_wide 3 Try.f3 rfl rfl rfl rfl rfl rfl rfl ⟨rfl, rfl, rfl, rfl, rfl⟩ rfl rfl rfl rfl rfl (by kernel_rfl) Try.func3 (by kernel_rfl)
  (of_decide_eq_true (by kernel_rfl)) (by unfold Func.isWrapper; first | (rw [if_pos (by decide +kernel)]; kernel_rfl) | (rw [if_neg (by decide +kernel)]; exact ⟨rfl, rfl⟩))
  (fun os started H enc _ => lifted os started H enc)
theorem proved : Rows.RecordsSameSaid := over
#print axioms proved
end Go.Proofs.Ytnbmgljcnbhinaa.recordsSame
namespace Go.Proofs.Ytnbmgljcnbhinaa
theorem recordsSame_holds : Rows.RecordsSameSaid := recordsSame.proved
end Go.Proofs.Ytnbmgljcnbhinaa
end
