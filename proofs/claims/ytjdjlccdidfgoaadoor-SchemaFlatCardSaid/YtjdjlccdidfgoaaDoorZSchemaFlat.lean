/- The claim's theorem: LawSchemaFlat. -/
import Derived.Below
import Derived.ChangeOld
import Derived.Deep.DeepHandedRow
import Derived.Lib.LaidTab
import Derived.OpenShut
import Derived.ProofKit
import Derived.SevenTiedAt
import Derived.ShutString
import Derived.SizedLaws
import Derived.Test.YtjdjlccdidfgoaaDoorCards
import Derived.Test.YtjdjlccdidfgoaaDoorRows
import Derived.Test.YtjdjlccdidfgoaaDoorTie
import Derived.WalkKit
import Derived.Test.YtjdjlccdidfgoaaDoorZSchemaFlat1
import Derived.Test.YtjdjlccdidfgoaaDoorZSchemaFlat21
section
-- Laid by this session's hprint.py: the row of a law. Not trusted: Lean checks it.
namespace Go.Proofs.YtjdjlccdidfgoaaDoor.schemaFlat
open Go.ChangeShapes Go.WideShapes Go.ChangeAt
open Go.RowKit Go.Proofs.YtjdjlccdidfgoaaDoorW.PrintWords Go.Proofs.YtjdjlccdidfgoaaDoorW.PrintLast Go.Proofs.YtjdjlccdidfgoaaDoorW.PrintMore Go.Proofs.YtjdjlccdidfgoaaDoor.H Go.Proofs.YtjdjlccdidfgoaaDoorO
open Go.ChangeMaps (open_string shut_string)
set_option linter.unusedVariables false
theorem own : ownKnob Tryd.prog.godebug = none := by kernel_rfl
theorem laidOut : laidOutB Tryd.prog = true := by kernel_rfl
set_option maxRecDepth 100000 in
theorem contract (H : Type) (enc : TypeId × Value → H) (W : World) (base : Nat) (args : Array Value) (ds gs : List (DataW H)) (before : List MemPlace)
    (hval0 : ∀ (j : Nat) t v, Tryd.f5.params[j]? = some t → args[j]? = some v → Value.okWide Tryd.prog W .any base t v)
    (hW : DataW.Whole enc Tryd.prog Tryd.f5.params.toList Rows.schemaFlatSpec.vars false W args.toList ds gs before)
    (hsz0 : (DataW.weightsEach Tryd.prog (Tryd.f5.params.toList ++ Rows.schemaFlatSpec.plain.varTypes Tryd.prog) (ds ++ gs)).all (· ≤ reachBytes) = true) (hL : laidMetH Tryd.prog Rows.schemaFlatRow.laid W) :
    Calls Tryd.prog 5 args W fun e W' => ∃ v, e = .returned v ∧ Rows.schemaFlatSpec.post enc Tryd.prog Tryd.f5 false true false false W args v W' := by
  have hT_ : Tabs_ W := tabs_of_laid hL
  have hsz : (DataW.weightsEach Tryd.prog (Tryd.f5.params.toList ++ Rows.schemaFlatSpec.plain.varTypes Tryd.prog) (ds ++ gs)).all (· ≤ reachBytes) = true := hsz0
  have hval : ∀ (j : Nat) t v, Tryd.f5.params[j]? = some t → args[j]? = some v → Value.okWide Tryd.prog W .any base t v := hval0
  have hW' := hW
  obtain ⟨p, q, hA0, hV, rfl, hfz, hnd⟩ := hW
  have hA : DataW.TrodAll enc Tryd.prog W 0 (fun _ => true) true Tryd.f5.params.toList args.toList ds p := hA0
  rw [Tryd.params5] at hA hval hsz
  obtain ⟨v0, vs0, d0, ds0, p0, q0, hargs, rfl, rfl, h0, r0⟩ := trodAll_cons hA
  obtain ⟨rfl, rfl, rfl⟩ := trodAll_nil r0
  obtain rfl : args = #[v0] := by cases args; simp_all
  obtain ⟨rfl, rfl⟩ := trodVars_none hV
  have k0 := h0
  have lt0 : ∀ x ∈ p0, x.block < W.heap.size := by obtain ⟨m, hm⟩ := k0; exact DataW.trod_lt m _ _ _ hm
  have wt0 : ∀ m ∈ DataW.weights Tryd.prog 24 d0, m ≤ reachBytes := weights_ok hsz (j := 0) rfl rfl
  obtain ⟨cs0, rfl, hcs0⟩ := okWide_struct Tryd.underlying24 (hval 0 24 v0 rfl rfl)
  obtain ⟨y0, hK0, gy0⟩ : ∃ y, k24.K W y cs0.toList ∧ G24 y := by
    obtain ⟨fuel, hf⟩ := h0
    exact open24 fuel (Nat.le_refl _) hf wt0
  obtain ⟨A0_1, c0_1, he0, hc0_1, hr0_1⟩ := k24_open hK0
  obtain rfl : cs0 = #[.string y0.f0, .slice A0_1 y0.f1.length c0_1] := by cases cs0; simpa using he0
  clear hA0 hval0 hsz0 hsz
  obtain ⟨k, hlaw⟩ := pure_ y0 gy0
  refine (marquetrylaw16_SchemaFlat.calls k y0.f0 _ _ y0.f1 true W hr0_1 hc0_1 hlaw).mono fun e W' ⟨he, bel0⟩ => ?_
  have bel : Below W.heap.size W W' := bel0
  subst he
  exact ⟨_, rfl, _, _, _, [], _, [], hW', trodAll_mk1 (shut_bool Tryd.underlying4 _), (trodAll_cons_mk (Below.trod laidOut (by kernel_rfl) (of_decide_eq_true (by kernel_rfl)) k0 bel lt0) trodAll_mk0), rfl, bel.frame _, fun h => by cases h⟩
theorem laid_met (os : Os) : laidMet Tryd.prog Rows.schemaFlatRow.laid ((laidWorld os).forCall (fun _ _ => 0) ⟨#[], #[(.agg #[(.string ⟨#[]⟩), (.slice none 0 0)])], []⟩).memory :=
  laidMet_of_run' 8 (by kernel_rfl) (by kernel_rfl)
theorem reads (os : Os) {H : Type} (enc : TypeId × Value → H) : ∃ ds places, DataW.whole enc Tryd.prog ((laidWorld os).forCall (fun _ _ => 0) ⟨#[], #[(.agg #[(.string ⟨#[]⟩), (.slice none 0 0)])], []⟩).memory Tryd.f5.params.toList Rows.schemaFlatSpec.vars false (#[(.agg #[(.string ⟨#[]⟩), (.slice none 0 0)])] : Array Value).toList 8 = some (ds, [], places) := by
  have hm : (DataW.whole enc Tryd.prog ((laidWorld os).forCall (fun _ _ => 0) ⟨#[], #[(.agg #[(.string ⟨#[]⟩), (.slice none 0 0)])], []⟩).memory Tryd.f5.params.toList Rows.schemaFlatSpec.vars false (#[(.agg #[(.string ⟨#[]⟩), (.slice none 0 0)])] : Array Value).toList 8).map (fun r => r.2.1.isEmpty) = some true := by kernel_rfl
  generalize DataW.whole enc Tryd.prog ((laidWorld os).forCall (fun _ _ => 0) ⟨#[], #[(.agg #[(.string ⟨#[]⟩), (.slice none 0 0)])], []⟩).memory Tryd.f5.params.toList Rows.schemaFlatSpec.vars false (#[(.agg #[(.string ⟨#[]⟩), (.slice none 0 0)])] : Array Value).toList 8 = o at hm ⊢
  rcases o with _ | ⟨ds, gs, places⟩
  · cases hm
  · have hg : gs = [] := List.isEmpty_iff.mp (Option.some.inj hm)
    subst hg
    exact ⟨ds, places, rfl⟩
set_option maxRecDepth 100000 in
theorem lifted (os : Os) (started : os.Started) (H : Type) (enc : TypeId × Value → H) (F : Stop.Interp) :
    ReturnsInHanded {} Tryd.checked os 5 .any ((OpenSpec.ofChange Rows.schemaFlatSpec).preRow enc Tryd.prog Tryd.f5 Rows.schemaFlatRow.domain false Rows.schemaFlatRow.laid) (((OpenSpec.ofChange Rows.schemaFlatSpec).at F).post enc Tryd.prog Tryd.f5 false true false false) := by
  obtain ⟨ds0, places, hx⟩ := reads os enc
  refine returnsInHanded_of_row (C := Tryd.checked) (s := OpenSpec.ofChange Rows.schemaFlatSpec) own started (by kernel_rfl) Tryd.func5
    (witness_row_at (enc := enc) (C := Tryd.checked) false (laidWorld os) #[(.agg #[(.string ⟨#[]⟩), (.slice none 0 0)])] rfl (by kernel_rfl) (by kernel_rfl) (by kernel_rfl)
      (OpenSpec.preRow_of_cond 8 hx (by kernel_rfl) (fun k hk => by cases hk) (by kernel_rfl) (laid_met os))) ?_
  intro W base args ds gs before hval hW _ _ hsz hL _ _
  exact contract H enc W base args ds gs before hval hW hsz hL
theorem over : Rows.SchemaFlatSaid :=
  OpenClaim.holds_of_cond 5 Tryd.f5 rfl rfl rfl rfl rfl rfl rfl ⟨rfl, rfl, rfl, rfl, rfl⟩ rfl rfl rfl rfl rfl (by kernel_rfl) Tryd.func5 (by kernel_rfl)
    (of_decide_eq_true (by kernel_rfl)) (by unfold Func.isWrapper; first | (rw [if_pos (by decide +kernel)]; kernel_rfl) | (rw [if_neg (by decide +kernel)]; exact ⟨rfl, rfl⟩))
    (fun os started H enc _ F => by rw [OpenClaim.pre_eq_preRow]; exact lifted os started H enc F)
theorem plain_ (f : FuncId) (fn : Func) (hf : Tryd.pinned.checked.prog.funcNamed "marquetry/marquetrylaw16.SchemaFlat" = some f) (hfn : Tryd.pinned.checked.prog.funcs[f]? = some fn) :
    true = Tryd.pinned.checked.prog.looks [] ∧ ∀ (j : Nat) t, fn.params[j]? = some t → Tryd.pinned.checked.prog.wantsStandIn t = false := by
  obtain rfl : f = 5 := Option.some.inj ((show Tryd.prog.funcNamed "marquetry/marquetrylaw16.SchemaFlat" = some 5 by kernel_rfl).symm.trans hf) |>.symm
  obtain rfl : fn = Tryd.f5 := (Option.some.inj (Tryd.func5.symm.trans hfn)).symm
  refine ⟨by kernel_rfl, fun j t ht => ?_⟩
  rw [Tryd.params5] at ht
  have hm := Array.mem_of_getElem? ht
  simp only [List.mem_toArray, List.mem_cons, List.not_mem_nil, or_false] at hm
  rcases hm with rfl
  · exact (show Tryd.prog.wantsStandIn 24 = false by kernel_rfl)
theorem proved : Rows.SchemaFlatCardSaid :=
  Claim7.holds_tied_plain_at .later [] _ _ _ _ over (fun _ h => by cases h) (by kernel_rfl) (fun _ h => by cases h) schemaFlat_row_tie rfl ⟨rfl, rfl⟩ (by kernel_rfl) rfl plain_ (by kernel_rfl)
#print axioms proved
end Go.Proofs.YtjdjlccdidfgoaaDoor.schemaFlat
namespace Go.Proofs.YtjdjlccdidfgoaaDoor
/-- The card, under a short name, for the claim. -/
theorem schemaFlat_holds : Rows.SchemaFlatCardSaid := schemaFlat.proved
end Go.Proofs.YtjdjlccdidfgoaaDoor
end
