/- Texts of the claim, packed: H49, H54, CmpAid. -/
import Derived.Test.YtncehlbhjoejhaaZRangesJoins4
import Derived.Test.YtncehlbhjoejhaaZRangesJoins6
import Derived.Test.YtncehlbhjoejhaaZRangesJoins11
import Derived.Test.YtncehlbhjoejhaaZRangesJoins14
import Derived.Test.YtncehlbhjoejhaaZRangesJoins15
import Derived.Test.YtncehlbhjoejhaaZRangesJoins19
import Derived.Test.YtncehlbhjoejhaaZRangesJoins20
section
-- Laid by this session's hprint.py, out of the kit's print.py and texts of the session. Not trusted: Lean checks it.
namespace Go.Proofs.Ytncehlbhjoejhaa.H
open Go.RowKit Go.Proofs.YtncehlbhjoejhaaW.PrintWords Go.Proofs.YtncehlbhjoejhaaW.PrintLast Go.Proofs.YtncehlbhjoejhaaW.PrintMore
attribute [local go_sem] max2_int min2_int max_two min_two max_three min_three max_four min_four   -- for this text's walks alone
set_option linter.unusedVariables false
set_option linter.unusedSimpArgs false

-- OVPART Derived.Test.YtncehlbhjoejhaaDatAid
-- CALLS marquetry/marquetryref09.Fine marquetry/marquetryref09.Real marquetry/marquetryref09.Texts marquetry/datum.Compare
def inR (i : Int) : Prop := -9223372036854775808 ≤ i ∧ i ≤ 9223372036854775807
instance (i : Int) : Decidable (inR i) := by unfold inR; infer_instance
def refCmp (tx : Option Int) (a0_0 a0_1 : Int) (a0_2 : ByteArray) (a1_0 a1_1 : Int) (a1_2 : ByteArray) : Option (Int × Bool) :=
 if datum_fine.v a0_0 a0_1 a0_2 = false ∨ datum_fine.v a1_0 a1_1 a1_2 = false ∨ a0_0 ≠ a1_0 then some (0, false)
 else if a0_0 = 6 ∨ a0_0 = 7 then tx.bind fun r => some (r, true)
 else if a0_0 = 4 ∨ a0_0 = 5 then (if nanD a0_0 a0_1 = true ∨ nanD a1_0 a1_1 = true then some (0, false) else some (fcmpI (rbits a0_0 a0_1) (rbits a1_0 a1_1), true))
 else some (if a0_1 < a1_1 then -1 else if a0_1 > a1_1 then 1 else 0, true)
def marquetryref09_Compare.f (k : Nat) (a0_0 a0_1 : Int) (a0_2 : ByteArray) (a1_0 a1_1 : Int) (a1_2 : ByteArray) : Option (Int × Bool) :=
 if inR a0_1 ∧ inR a1_1 then refCmp (marquetryref09_Texts.f k a0_2 a1_2) a0_0 a0_1 a0_2 a1_0 a1_1 a1_2 else none
theorem marquetryref09_Compare.mono : ∀ a0 a1 a2 a3 a4 a5 k, LeO (marquetryref09_Compare.f k a0 a1 a2 a3 a4 a5) (marquetryref09_Compare.f (k + 1) a0 a1 a2 a3 a4 a5) := by
 intro a0 a1 a2 a3 a4 a5 k
 unfold marquetryref09_Compare.f refCmp
 refine LeO.ite ?_ (LeO.refl _)
 refine LeO.ite (LeO.refl _) ?_
 refine LeO.ite ?_ (LeO.refl _)
 exact LeO.bind (marquetryref09_Texts.mono _ _ _) (fun _ => LeO.refl _)
open Go.Proofs.YtncehlbhjoejhaaF
theorem real_isnan {k i : Int} {t : ByteArray} {b : Nat} (h : isReal k i t = true) (hP : RealP k i t b) : (Ieee.double.read b).isNaN = nanD k i := by
 rw [← real_nan h hP, order_self]
theorem order_none {k1 i1 k2 i2 : Int} {t1 t2 : ByteArray} {b c : Nat} (h1 : isReal k1 i1 t1 = true) (h2 : isReal k2 i2 t2 = true) (p1 : RealP k1 i1 t1 b) (p2 : RealP k2 i2 t2 c) (hn : nanD k1 i1 = true ∨ nanD k2 i2 = true) : FloatKind.f64.format.order b c = none := by
 refine order_nan _ _ ?_
 rw [← real_isnan h1 p1, ← real_isnan h2 p2] at hn
 rcases hn with hn | hn
 ·left
  cases hr : Ieee.double.read b with
  | nan s t => exact ⟨s, t, hr⟩
  | infinity s => rw [hr] at hn; cases hn
  | number s m e => rw [hr] at hn; cases hn
 ·right
  cases hr : Ieee.double.read c with
  | nan s t => exact ⟨s, t, hr⟩
  | infinity s => rw [hr] at hn; cases hn
  | number s m e => rw [hr] at hn; cases hn
set_option maxHeartbeats 8000000 in
set_option maxRecDepth 100000 in
theorem marquetryref09_Compare.calls (k : Nat) (a0_0 : Int) (a0_1 : Int) (a0_2 : ByteArray) (a1_0 : Int) (a1_1 : Int) (a1_2 : ByteArray) (r1 : Int) (r2 : Bool) (w : World) (h : marquetryref09_Compare.f k a0_0 a0_1 a0_2 a1_0 a1_1 a1_2 = some (r1, r2)) :
  Calls Try.prog 43 #[.agg #[.int .i64 a0_0, .int .i64 a0_1, .string a0_2], .agg #[.int .i64 a1_0, .int .i64 a1_1, .string a1_2]] w fun e w' => e = .returned (.tuple #[.int .i64 r1, .bool r2]) ∧ Below w.heap.size w w' := by
 unfold marquetryref09_Compare.f at h
 by_cases hin : inR a0_1 ∧ inR a1_1
 case neg => rw [if_neg hin] at h; cases h
 rw [if_pos hin] at h
 unfold refCmp at h
 have T : Aside0 True := Aside0.mk trivial
 have hfa := DatAid.ref_fine a0_0 a0_1 a0_2 hin.1
 have hfb := DatAid.ref_fine a1_0 a1_1 a1_2 hin.2
 have RA := Aside0.mk hin.1
 have RB := Aside0.mk hin.2
 clear hin
 generalize hva : datum_fine.v a0_0 a0_1 a0_2 = va at *
 generalize hvb : datum_fine.v a1_0 a1_1 a1_2 = vb at *
 cases va with
 | false =>
  rw [if_pos (Or.inl rfl)] at h
  cases h
  go_enter Try.func43, Try.ntmps43
  go_wp2_with (first | ((with_reducible refine gate_callee (f := 49) rfl ?_); (try (refine gate_guard (by rfl) ?_; dsimp only)); refine goesL_ _ rfl rfl Try.func49 (by kernel_rfl) rfl #[.agg #[.int .i64 a0_0, .int .i64 a0_1, .string a0_2]] rfl (by (try simp only [List.map_toArray, List.map_cons, List.map_nil]); first | done | rfl) ?_; refine (marquetryref09_Fine.calls 1 a0_0 a0_1 a0_2 _ _ hfa).mono ?_; rintro e w' ⟨rfl, hb⟩; have T2 := Aside0.mk ((by first | exact T.out.next hb | exact T.out.drew.next hb | exact (Two.start w _ _ _ _ _ _ _ _).next hb | exact (Two.start w _ _ _ _ _ _ _ _).drew.next hb) : Two w w' a0_0 a0_1 a0_2 a1_0 a1_1 a1_2); clear T hb; have T := T2; clear T2; have c0 := T.out.c0; have c1 := T.out.c1; have c2 := T.out.c2; have d0 := T.out.d0; have d1 := T.out.d1; have d2 := T.out.d2; refine ⟨_, rfl, ?_⟩) | ((with_reducible refine gate_callee (f := 49) rfl ?_); (try (refine gate_guard (by rfl) ?_; dsimp only)); refine goesL_ _ rfl rfl Try.func49 (by kernel_rfl) rfl #[.agg #[.int .i64 a1_0, .int .i64 a1_1, .string a1_2]] rfl (by (try simp only [List.map_toArray, List.map_cons, List.map_nil]); first | done | rfl) ?_; refine (marquetryref09_Fine.calls 1 a1_0 a1_1 a1_2 _ _ hfb).mono ?_; rintro e w' ⟨rfl, hb⟩; have T2 := Aside0.mk ((by first | exact T.out.next hb | exact T.out.drew.next hb | exact (Two.start w _ _ _ _ _ _ _ _).next hb | exact (Two.start w _ _ _ _ _ _ _ _).drew.next hb) : Two w w' a0_0 a0_1 a0_2 a1_0 a1_1 a1_2); clear T hb; have T := T2; clear T2; have c0 := T.out.c0; have c1 := T.out.c1; have c2 := T.out.c2; have d0 := T.out.d0; have d1 := T.out.d1; have d2 := T.out.d2; refine ⟨_, rfl, ?_⟩))
  go_ret2
  exact ⟨rfl, T.out.below⟩
 | true =>
  cases vb with
  | false =>
   rw [if_pos (Or.inr (Or.inl rfl))] at h
   cases h
   go_enter Try.func43, Try.ntmps43
   go_wp2_with (first | ((with_reducible refine gate_callee (f := 49) rfl ?_); (try (refine gate_guard (by rfl) ?_; dsimp only)); refine goesL_ _ rfl rfl Try.func49 (by kernel_rfl) rfl #[.agg #[.int .i64 a0_0, .int .i64 a0_1, .string a0_2]] rfl (by (try simp only [List.map_toArray, List.map_cons, List.map_nil]); first | done | rfl) ?_; refine (marquetryref09_Fine.calls 1 a0_0 a0_1 a0_2 _ _ hfa).mono ?_; rintro e w' ⟨rfl, hb⟩; have T2 := Aside0.mk ((by first | exact T.out.next hb | exact T.out.drew.next hb | exact (Two.start w _ _ _ _ _ _ _ _).next hb | exact (Two.start w _ _ _ _ _ _ _ _).drew.next hb) : Two w w' a0_0 a0_1 a0_2 a1_0 a1_1 a1_2); clear T hb; have T := T2; clear T2; have c0 := T.out.c0; have c1 := T.out.c1; have c2 := T.out.c2; have d0 := T.out.d0; have d1 := T.out.d1; have d2 := T.out.d2; refine ⟨_, rfl, ?_⟩) | ((with_reducible refine gate_callee (f := 49) rfl ?_); (try (refine gate_guard (by rfl) ?_; dsimp only)); refine goesL_ _ rfl rfl Try.func49 (by kernel_rfl) rfl #[.agg #[.int .i64 a1_0, .int .i64 a1_1, .string a1_2]] rfl (by (try simp only [List.map_toArray, List.map_cons, List.map_nil]); first | done | rfl) ?_; refine (marquetryref09_Fine.calls 1 a1_0 a1_1 a1_2 _ _ hfb).mono ?_; rintro e w' ⟨rfl, hb⟩; have T2 := Aside0.mk ((by first | exact T.out.next hb | exact T.out.drew.next hb | exact (Two.start w _ _ _ _ _ _ _ _).next hb | exact (Two.start w _ _ _ _ _ _ _ _).drew.next hb) : Two w w' a0_0 a0_1 a0_2 a1_0 a1_1 a1_2); clear T hb; have T := T2; clear T2; have c0 := T.out.c0; have c1 := T.out.c1; have c2 := T.out.c2; have d0 := T.out.d0; have d1 := T.out.d1; have d2 := T.out.d2; refine ⟨_, rfl, ?_⟩))
   go_ret2
   exact ⟨rfl, T.out.below⟩
  | true =>
   by_cases hk : a0_0 = a1_0
   ·subst hk
    rw [if_neg (by simp)] at h
    by_cases h6 : a0_0 = 6
    ·subst h6
     rw [if_pos (by simp)] at h
     obtain ⟨rr, hT, h⟩ := Option.bind_eq_some_iff.mp h
     have HT := Aside0.mk hT
     clear hT
     cases h
     go_enter Try.func43, Try.ntmps43
     go_wp2_with (first | ((with_reducible refine gate_callee (f := 49) rfl ?_); (try (refine gate_guard (by rfl) ?_; dsimp only)); refine goesL_ _ rfl rfl Try.func49 (by kernel_rfl) rfl #[.agg #[.int .i64 6, .int .i64 a0_1, .string a0_2]] rfl (by (try simp only [List.map_toArray, List.map_cons, List.map_nil]); first | done | rfl) ?_; refine (marquetryref09_Fine.calls 1 6 a0_1 a0_2 _ _ hfa).mono ?_; rintro e w' ⟨rfl, hb⟩; have T2 := Aside0.mk ((by first | exact T.out.next hb | exact T.out.drew.next hb | exact (Two.start w _ _ _ _ _ _ _ _).next hb | exact (Two.start w _ _ _ _ _ _ _ _).drew.next hb) : Two w w' 6 a0_1 a0_2 6 a1_1 a1_2); clear T hb; have T := T2; clear T2; have c0 := T.out.c0; have c1 := T.out.c1; have c2 := T.out.c2; have d0 := T.out.d0; have d1 := T.out.d1; have d2 := T.out.d2; refine ⟨_, rfl, ?_⟩) | ((with_reducible refine gate_callee (f := 49) rfl ?_); (try (refine gate_guard (by rfl) ?_; dsimp only)); refine goesL_ _ rfl rfl Try.func49 (by kernel_rfl) rfl #[.agg #[.int .i64 6, .int .i64 a1_1, .string a1_2]] rfl (by (try simp only [List.map_toArray, List.map_cons, List.map_nil]); first | done | rfl) ?_; refine (marquetryref09_Fine.calls 1 6 a1_1 a1_2 _ _ hfb).mono ?_; rintro e w' ⟨rfl, hb⟩; have T2 := Aside0.mk ((by first | exact T.out.next hb | exact T.out.drew.next hb | exact (Two.start w _ _ _ _ _ _ _ _).next hb | exact (Two.start w _ _ _ _ _ _ _ _).drew.next hb) : Two w w' 6 a0_1 a0_2 6 a1_1 a1_2); clear T hb; have T := T2; clear T2; have c0 := T.out.c0; have c1 := T.out.c1; have c2 := T.out.c2; have d0 := T.out.d0; have d1 := T.out.d1; have d2 := T.out.d2; refine ⟨_, rfl, ?_⟩) | ((with_reducible refine gate_callee (f := 59) rfl ?_); (try (refine gate_guard (by rfl) ?_; dsimp only)); refine goesL_ _ rfl rfl Try.func59 (by kernel_rfl) rfl #[.string a0_2, .string a1_2] rfl (by (try simp only [List.map_toArray, List.map_cons, List.map_nil]); first | done | rfl) ?_; refine (marquetryref09_Texts.calls k a0_2 a1_2 _ _ HT.out).mono ?_; rintro e w' ⟨rfl, ⟨nd, rfl⟩⟩; refine ⟨_, rfl, ?_⟩))
     go_ret2
     exact ⟨rfl, by first | exact T.out.below | exact pw_below_drewN T.out.below _ | exact T.out.below.drew⟩
    ·by_cases h7 : a0_0 = 7
     ·subst h7
      rw [if_pos (by simp)] at h
      obtain ⟨rr, hT, h⟩ := Option.bind_eq_some_iff.mp h
      have HT := Aside0.mk hT
      clear hT
      cases h
      go_enter Try.func43, Try.ntmps43
      go_wp2_with (first | ((with_reducible refine gate_callee (f := 49) rfl ?_); (try (refine gate_guard (by rfl) ?_; dsimp only)); refine goesL_ _ rfl rfl Try.func49 (by kernel_rfl) rfl #[.agg #[.int .i64 7, .int .i64 a0_1, .string a0_2]] rfl (by (try simp only [List.map_toArray, List.map_cons, List.map_nil]); first | done | rfl) ?_; refine (marquetryref09_Fine.calls 1 7 a0_1 a0_2 _ _ hfa).mono ?_; rintro e w' ⟨rfl, hb⟩; have T2 := Aside0.mk ((by first | exact T.out.next hb | exact T.out.drew.next hb | exact (Two.start w _ _ _ _ _ _ _ _).next hb | exact (Two.start w _ _ _ _ _ _ _ _).drew.next hb) : Two w w' 7 a0_1 a0_2 7 a1_1 a1_2); clear T hb; have T := T2; clear T2; have c0 := T.out.c0; have c1 := T.out.c1; have c2 := T.out.c2; have d0 := T.out.d0; have d1 := T.out.d1; have d2 := T.out.d2; refine ⟨_, rfl, ?_⟩) | ((with_reducible refine gate_callee (f := 49) rfl ?_); (try (refine gate_guard (by rfl) ?_; dsimp only)); refine goesL_ _ rfl rfl Try.func49 (by kernel_rfl) rfl #[.agg #[.int .i64 7, .int .i64 a1_1, .string a1_2]] rfl (by (try simp only [List.map_toArray, List.map_cons, List.map_nil]); first | done | rfl) ?_; refine (marquetryref09_Fine.calls 1 7 a1_1 a1_2 _ _ hfb).mono ?_; rintro e w' ⟨rfl, hb⟩; have T2 := Aside0.mk ((by first | exact T.out.next hb | exact T.out.drew.next hb | exact (Two.start w _ _ _ _ _ _ _ _).next hb | exact (Two.start w _ _ _ _ _ _ _ _).drew.next hb) : Two w w' 7 a0_1 a0_2 7 a1_1 a1_2); clear T hb; have T := T2; clear T2; have c0 := T.out.c0; have c1 := T.out.c1; have c2 := T.out.c2; have d0 := T.out.d0; have d1 := T.out.d1; have d2 := T.out.d2; refine ⟨_, rfl, ?_⟩) | ((with_reducible refine gate_callee (f := 59) rfl ?_); (try (refine gate_guard (by rfl) ?_; dsimp only)); refine goesL_ _ rfl rfl Try.func59 (by kernel_rfl) rfl #[.string a0_2, .string a1_2] rfl (by (try simp only [List.map_toArray, List.map_cons, List.map_nil]); first | done | rfl) ?_; refine (marquetryref09_Texts.calls k a0_2 a1_2 _ _ HT.out).mono ?_; rintro e w' ⟨rfl, ⟨nd, rfl⟩⟩; refine ⟨_, rfl, ?_⟩))
      go_ret2
      exact ⟨rfl, by first | exact T.out.below | exact pw_below_drewN T.out.below _ | exact T.out.below.drew⟩
     ·rw [if_neg (by omega)] at h
      have b6 : (a0_0 == 6) = false := beq_eq_false_iff_ne.mpr h6
      have b7 : (a0_0 == 7) = false := beq_eq_false_iff_ne.mpr h7
      by_cases h4 : a0_0 = 4
      ·subst h4
       rw [if_pos (by simp)] at h
       have HRA := Aside0.mk (show isReal 4 a0_1 a0_2 = true by unfold isReal; rw [hva]; rfl)
       have HRB := Aside0.mk (show isReal 4 a1_1 a1_2 = true by unfold isReal; rw [hvb]; rfl)
       have ra : isReal 4 a0_1 a0_2 = true := HRA.out
       by_cases hn : nanD 4 a0_1 = true ∨ nanD 4 a1_1 = true
       ·rw [if_pos hn] at h
        cases h
        have HN := Aside0.mk hn
        clear hn
        go_enter Try.func43, Try.ntmps43
        go_wp2_with (first | ((with_reducible refine gate_callee (f := 49) rfl ?_); (try (refine gate_guard (by rfl) ?_; dsimp only)); refine goesL_ _ rfl rfl Try.func49 (by kernel_rfl) rfl #[.agg #[.int .i64 4, .int .i64 a0_1, .string a0_2]] rfl (by (try simp only [List.map_toArray, List.map_cons, List.map_nil]); first | done | rfl) ?_; refine (marquetryref09_Fine.calls 1 4 a0_1 a0_2 _ _ hfa).mono ?_; rintro e w' ⟨rfl, hb⟩; have T2 := Aside0.mk ((by first | exact T.out.next hb | exact T.out.drew.next hb | exact (Two.start w _ _ _ _ _ _ _ _).next hb | exact (Two.start w _ _ _ _ _ _ _ _).drew.next hb) : Two w w' 4 a0_1 a0_2 4 a1_1 a1_2); clear T hb; have T := T2; clear T2; have c0 := T.out.c0; have c1 := T.out.c1; have c2 := T.out.c2; have d0 := T.out.d0; have d1 := T.out.d1; have d2 := T.out.d2; refine ⟨_, rfl, ?_⟩) | ((with_reducible refine gate_callee (f := 49) rfl ?_); (try (refine gate_guard (by rfl) ?_; dsimp only)); refine goesL_ _ rfl rfl Try.func49 (by kernel_rfl) rfl #[.agg #[.int .i64 4, .int .i64 a1_1, .string a1_2]] rfl (by (try simp only [List.map_toArray, List.map_cons, List.map_nil]); first | done | rfl) ?_; refine (marquetryref09_Fine.calls 1 4 a1_1 a1_2 _ _ hfb).mono ?_; rintro e w' ⟨rfl, hb⟩; have T2 := Aside0.mk ((by first | exact T.out.next hb | exact T.out.drew.next hb | exact (Two.start w _ _ _ _ _ _ _ _).next hb | exact (Two.start w _ _ _ _ _ _ _ _).drew.next hb) : Two w w' 4 a0_1 a0_2 4 a1_1 a1_2); clear T hb; have T := T2; clear T2; have c0 := T.out.c0; have c1 := T.out.c1; have c2 := T.out.c2; have d0 := T.out.d0; have d1 := T.out.d1; have d2 := T.out.d2; refine ⟨_, rfl, ?_⟩) | ((with_reducible refine gate_callee (f := 60) rfl ?_); (try (refine gate_guard (by rfl) ?_; dsimp only)); refine goesL_ _ rfl rfl Try.func60 (by kernel_rfl) rfl #[.agg #[.int .i64 4, .int .i64 a0_1, .string a0_2]] rfl (by (try simp only [List.map_toArray, List.map_cons, List.map_nil]); first | done | rfl) ?_; refine (refreal_calls 4 a0_1 a0_2 _ RA.out).mono ?_; rintro e w' ⟨⟨b, rfl, hP⟩, hb⟩; have HPA := Aside0.mk hP; clear hP; have T2 := Aside0.mk ((by first | exact T.out.next hb | exact T.out.drew.next hb | exact (Two.start w _ _ _ _ _ _ _ _).next hb | exact (Two.start w _ _ _ _ _ _ _ _).drew.next hb) : Two w w' 4 a0_1 a0_2 4 a1_1 a1_2); clear T hb; have T := T2; clear T2; have c0 := T.out.c0; have c1 := T.out.c1; have c2 := T.out.c2; have d0 := T.out.d0; have d1 := T.out.d1; have d2 := T.out.d2; refine ⟨_, rfl, ?_⟩) | ((with_reducible refine gate_callee (f := 60) rfl ?_); (try (refine gate_guard (by rfl) ?_; dsimp only)); refine goesL_ _ rfl rfl Try.func60 (by kernel_rfl) rfl #[.agg #[.int .i64 4, .int .i64 a1_1, .string a1_2]] rfl (by (try simp only [List.map_toArray, List.map_cons, List.map_nil]); first | done | rfl) ?_; refine (refreal_calls 4 a1_1 a1_2 _ RB.out).mono ?_; rintro e w' ⟨⟨c, rfl, hP⟩, hb⟩; have hno := order_none HRA.out HRB.out HPA.out hP HN.out; have q1 : (FloatKind.f64.format.order b c == some Ordering.lt) = false := (by rw [hno]; rfl); have q2 : (FloatKind.f64.format.order b c == some Ordering.gt) = false := (by rw [hno]; rfl); have q3 : (FloatKind.f64.format.order b c == some Ordering.eq) = false := (by rw [hno]; rfl); clear hP hno; have T2 := Aside0.mk ((by first | exact T.out.next hb | exact T.out.drew.next hb | exact (Two.start w _ _ _ _ _ _ _ _).next hb | exact (Two.start w _ _ _ _ _ _ _ _).drew.next hb) : Two w w' 4 a0_1 a0_2 4 a1_1 a1_2); clear T hb; have T := T2; clear T2; have c0 := T.out.c0; have c1 := T.out.c1; have c2 := T.out.c2; have d0 := T.out.d0; have d1 := T.out.d1; have d2 := T.out.d2; refine ⟨_, rfl, ?_⟩))
        go_ret2
        exact ⟨rfl, T.out.below⟩
       ·rw [if_neg hn] at h
        have HNA := Aside0.mk (show nanD 4 a0_1 = false by cases hq : nanD 4 a0_1 with | true => exact absurd (Or.inl hq) hn | false => rfl)
        have HNB := Aside0.mk (show nanD 4 a1_1 = false by cases hq : nanD 4 a1_1 with | true => exact absurd (Or.inr hq) hn | false => rfl)
        clear hn
        obtain ⟨o, ho⟩ := order_num (rbits_num 4 a0_1 HNA.out) (rbits_num 4 a1_1 HNB.out)
        have hoi : fcmpI (rbits 4 a0_1) (rbits 4 a1_1) = ordInt o := by unfold fcmpI; rw [ho]
        rw [hoi] at h
        clear hoi
        cases h
        cases o
        ·have q1 : (FloatKind.f64.format.order (rbits 4 a0_1) (rbits 4 a1_1) == some Ordering.lt) = true := by rw [ho]; rfl
         clear ho
         go_enter Try.func43, Try.ntmps43
         go_wp2_with (first | ((with_reducible refine gate_callee (f := 49) rfl ?_); (try (refine gate_guard (by rfl) ?_; dsimp only)); refine goesL_ _ rfl rfl Try.func49 (by kernel_rfl) rfl #[.agg #[.int .i64 4, .int .i64 a0_1, .string a0_2]] rfl (by (try simp only [List.map_toArray, List.map_cons, List.map_nil]); first | done | rfl) ?_; refine (marquetryref09_Fine.calls 1 4 a0_1 a0_2 _ _ hfa).mono ?_; rintro e w' ⟨rfl, hb⟩; have T2 := Aside0.mk ((by first | exact T.out.next hb | exact T.out.drew.next hb | exact (Two.start w _ _ _ _ _ _ _ _).next hb | exact (Two.start w _ _ _ _ _ _ _ _).drew.next hb) : Two w w' 4 a0_1 a0_2 4 a1_1 a1_2); clear T hb; have T := T2; clear T2; have c0 := T.out.c0; have c1 := T.out.c1; have c2 := T.out.c2; have d0 := T.out.d0; have d1 := T.out.d1; have d2 := T.out.d2; refine ⟨_, rfl, ?_⟩) | ((with_reducible refine gate_callee (f := 49) rfl ?_); (try (refine gate_guard (by rfl) ?_; dsimp only)); refine goesL_ _ rfl rfl Try.func49 (by kernel_rfl) rfl #[.agg #[.int .i64 4, .int .i64 a1_1, .string a1_2]] rfl (by (try simp only [List.map_toArray, List.map_cons, List.map_nil]); first | done | rfl) ?_; refine (marquetryref09_Fine.calls 1 4 a1_1 a1_2 _ _ hfb).mono ?_; rintro e w' ⟨rfl, hb⟩; have T2 := Aside0.mk ((by first | exact T.out.next hb | exact T.out.drew.next hb | exact (Two.start w _ _ _ _ _ _ _ _).next hb | exact (Two.start w _ _ _ _ _ _ _ _).drew.next hb) : Two w w' 4 a0_1 a0_2 4 a1_1 a1_2); clear T hb; have T := T2; clear T2; have c0 := T.out.c0; have c1 := T.out.c1; have c2 := T.out.c2; have d0 := T.out.d0; have d1 := T.out.d1; have d2 := T.out.d2; refine ⟨_, rfl, ?_⟩) | ((with_reducible refine gate_callee (f := 60) rfl ?_); (try (refine gate_guard (by rfl) ?_; dsimp only)); refine goesL_ _ rfl rfl Try.func60 (by kernel_rfl) rfl #[.agg #[.int .i64 4, .int .i64 a0_1, .string a0_2]] rfl (by (try simp only [List.map_toArray, List.map_cons, List.map_nil]); first | done | rfl) ?_; refine (refreal_calls 4 a0_1 a0_2 _ RA.out).mono ?_; rintro e w' ⟨⟨b, rfl, hP⟩, hb⟩; obtain rfl := real_bits HRA.out HNA.out hP; clear hP; have T2 := Aside0.mk ((by first | exact T.out.next hb | exact T.out.drew.next hb | exact (Two.start w _ _ _ _ _ _ _ _).next hb | exact (Two.start w _ _ _ _ _ _ _ _).drew.next hb) : Two w w' 4 a0_1 a0_2 4 a1_1 a1_2); clear T hb; have T := T2; clear T2; have c0 := T.out.c0; have c1 := T.out.c1; have c2 := T.out.c2; have d0 := T.out.d0; have d1 := T.out.d1; have d2 := T.out.d2; refine ⟨_, rfl, ?_⟩) | ((with_reducible refine gate_callee (f := 60) rfl ?_); (try (refine gate_guard (by rfl) ?_; dsimp only)); refine goesL_ _ rfl rfl Try.func60 (by kernel_rfl) rfl #[.agg #[.int .i64 4, .int .i64 a1_1, .string a1_2]] rfl (by (try simp only [List.map_toArray, List.map_cons, List.map_nil]); first | done | rfl) ?_; refine (refreal_calls 4 a1_1 a1_2 _ RB.out).mono ?_; rintro e w' ⟨⟨b, rfl, hP⟩, hb⟩; obtain rfl := real_bits HRB.out HNB.out hP; clear hP; have T2 := Aside0.mk ((by first | exact T.out.next hb | exact T.out.drew.next hb | exact (Two.start w _ _ _ _ _ _ _ _).next hb | exact (Two.start w _ _ _ _ _ _ _ _).drew.next hb) : Two w w' 4 a0_1 a0_2 4 a1_1 a1_2); clear T hb; have T := T2; clear T2; have c0 := T.out.c0; have c1 := T.out.c1; have c2 := T.out.c2; have d0 := T.out.d0; have d1 := T.out.d1; have d2 := T.out.d2; refine ⟨_, rfl, ?_⟩))
         go_ret2
         exact ⟨rfl, T.out.below⟩
        ·have q1 : (FloatKind.f64.format.order (rbits 4 a0_1) (rbits 4 a1_1) == some Ordering.lt) = false := by rw [ho]; rfl
         have q2 : (FloatKind.f64.format.order (rbits 4 a0_1) (rbits 4 a1_1) == some Ordering.gt) = false := by rw [ho]; rfl
         have q3 : (FloatKind.f64.format.order (rbits 4 a0_1) (rbits 4 a1_1) == some Ordering.eq) = true := by rw [ho]; rfl
         clear ho
         go_enter Try.func43, Try.ntmps43
         go_wp2_with (first | ((with_reducible refine gate_callee (f := 49) rfl ?_); (try (refine gate_guard (by rfl) ?_; dsimp only)); refine goesL_ _ rfl rfl Try.func49 (by kernel_rfl) rfl #[.agg #[.int .i64 4, .int .i64 a0_1, .string a0_2]] rfl (by (try simp only [List.map_toArray, List.map_cons, List.map_nil]); first | done | rfl) ?_; refine (marquetryref09_Fine.calls 1 4 a0_1 a0_2 _ _ hfa).mono ?_; rintro e w' ⟨rfl, hb⟩; have T2 := Aside0.mk ((by first | exact T.out.next hb | exact T.out.drew.next hb | exact (Two.start w _ _ _ _ _ _ _ _).next hb | exact (Two.start w _ _ _ _ _ _ _ _).drew.next hb) : Two w w' 4 a0_1 a0_2 4 a1_1 a1_2); clear T hb; have T := T2; clear T2; have c0 := T.out.c0; have c1 := T.out.c1; have c2 := T.out.c2; have d0 := T.out.d0; have d1 := T.out.d1; have d2 := T.out.d2; refine ⟨_, rfl, ?_⟩) | ((with_reducible refine gate_callee (f := 49) rfl ?_); (try (refine gate_guard (by rfl) ?_; dsimp only)); refine goesL_ _ rfl rfl Try.func49 (by kernel_rfl) rfl #[.agg #[.int .i64 4, .int .i64 a1_1, .string a1_2]] rfl (by (try simp only [List.map_toArray, List.map_cons, List.map_nil]); first | done | rfl) ?_; refine (marquetryref09_Fine.calls 1 4 a1_1 a1_2 _ _ hfb).mono ?_; rintro e w' ⟨rfl, hb⟩; have T2 := Aside0.mk ((by first | exact T.out.next hb | exact T.out.drew.next hb | exact (Two.start w _ _ _ _ _ _ _ _).next hb | exact (Two.start w _ _ _ _ _ _ _ _).drew.next hb) : Two w w' 4 a0_1 a0_2 4 a1_1 a1_2); clear T hb; have T := T2; clear T2; have c0 := T.out.c0; have c1 := T.out.c1; have c2 := T.out.c2; have d0 := T.out.d0; have d1 := T.out.d1; have d2 := T.out.d2; refine ⟨_, rfl, ?_⟩) | ((with_reducible refine gate_callee (f := 60) rfl ?_); (try (refine gate_guard (by rfl) ?_; dsimp only)); refine goesL_ _ rfl rfl Try.func60 (by kernel_rfl) rfl #[.agg #[.int .i64 4, .int .i64 a0_1, .string a0_2]] rfl (by (try simp only [List.map_toArray, List.map_cons, List.map_nil]); first | done | rfl) ?_; refine (refreal_calls 4 a0_1 a0_2 _ RA.out).mono ?_; rintro e w' ⟨⟨b, rfl, hP⟩, hb⟩; obtain rfl := real_bits HRA.out HNA.out hP; clear hP; have T2 := Aside0.mk ((by first | exact T.out.next hb | exact T.out.drew.next hb | exact (Two.start w _ _ _ _ _ _ _ _).next hb | exact (Two.start w _ _ _ _ _ _ _ _).drew.next hb) : Two w w' 4 a0_1 a0_2 4 a1_1 a1_2); clear T hb; have T := T2; clear T2; have c0 := T.out.c0; have c1 := T.out.c1; have c2 := T.out.c2; have d0 := T.out.d0; have d1 := T.out.d1; have d2 := T.out.d2; refine ⟨_, rfl, ?_⟩) | ((with_reducible refine gate_callee (f := 60) rfl ?_); (try (refine gate_guard (by rfl) ?_; dsimp only)); refine goesL_ _ rfl rfl Try.func60 (by kernel_rfl) rfl #[.agg #[.int .i64 4, .int .i64 a1_1, .string a1_2]] rfl (by (try simp only [List.map_toArray, List.map_cons, List.map_nil]); first | done | rfl) ?_; refine (refreal_calls 4 a1_1 a1_2 _ RB.out).mono ?_; rintro e w' ⟨⟨b, rfl, hP⟩, hb⟩; obtain rfl := real_bits HRB.out HNB.out hP; clear hP; have T2 := Aside0.mk ((by first | exact T.out.next hb | exact T.out.drew.next hb | exact (Two.start w _ _ _ _ _ _ _ _).next hb | exact (Two.start w _ _ _ _ _ _ _ _).drew.next hb) : Two w w' 4 a0_1 a0_2 4 a1_1 a1_2); clear T hb; have T := T2; clear T2; have c0 := T.out.c0; have c1 := T.out.c1; have c2 := T.out.c2; have d0 := T.out.d0; have d1 := T.out.d1; have d2 := T.out.d2; refine ⟨_, rfl, ?_⟩))
         go_ret2
         exact ⟨rfl, T.out.below⟩
        ·have q1 : (FloatKind.f64.format.order (rbits 4 a0_1) (rbits 4 a1_1) == some Ordering.lt) = false := by rw [ho]; rfl
         have q2 : (FloatKind.f64.format.order (rbits 4 a0_1) (rbits 4 a1_1) == some Ordering.gt) = true := by rw [ho]; rfl
         clear ho
         go_enter Try.func43, Try.ntmps43
         go_wp2_with (first | ((with_reducible refine gate_callee (f := 49) rfl ?_); (try (refine gate_guard (by rfl) ?_; dsimp only)); refine goesL_ _ rfl rfl Try.func49 (by kernel_rfl) rfl #[.agg #[.int .i64 4, .int .i64 a0_1, .string a0_2]] rfl (by (try simp only [List.map_toArray, List.map_cons, List.map_nil]); first | done | rfl) ?_; refine (marquetryref09_Fine.calls 1 4 a0_1 a0_2 _ _ hfa).mono ?_; rintro e w' ⟨rfl, hb⟩; have T2 := Aside0.mk ((by first | exact T.out.next hb | exact T.out.drew.next hb | exact (Two.start w _ _ _ _ _ _ _ _).next hb | exact (Two.start w _ _ _ _ _ _ _ _).drew.next hb) : Two w w' 4 a0_1 a0_2 4 a1_1 a1_2); clear T hb; have T := T2; clear T2; have c0 := T.out.c0; have c1 := T.out.c1; have c2 := T.out.c2; have d0 := T.out.d0; have d1 := T.out.d1; have d2 := T.out.d2; refine ⟨_, rfl, ?_⟩) | ((with_reducible refine gate_callee (f := 49) rfl ?_); (try (refine gate_guard (by rfl) ?_; dsimp only)); refine goesL_ _ rfl rfl Try.func49 (by kernel_rfl) rfl #[.agg #[.int .i64 4, .int .i64 a1_1, .string a1_2]] rfl (by (try simp only [List.map_toArray, List.map_cons, List.map_nil]); first | done | rfl) ?_; refine (marquetryref09_Fine.calls 1 4 a1_1 a1_2 _ _ hfb).mono ?_; rintro e w' ⟨rfl, hb⟩; have T2 := Aside0.mk ((by first | exact T.out.next hb | exact T.out.drew.next hb | exact (Two.start w _ _ _ _ _ _ _ _).next hb | exact (Two.start w _ _ _ _ _ _ _ _).drew.next hb) : Two w w' 4 a0_1 a0_2 4 a1_1 a1_2); clear T hb; have T := T2; clear T2; have c0 := T.out.c0; have c1 := T.out.c1; have c2 := T.out.c2; have d0 := T.out.d0; have d1 := T.out.d1; have d2 := T.out.d2; refine ⟨_, rfl, ?_⟩) | ((with_reducible refine gate_callee (f := 60) rfl ?_); (try (refine gate_guard (by rfl) ?_; dsimp only)); refine goesL_ _ rfl rfl Try.func60 (by kernel_rfl) rfl #[.agg #[.int .i64 4, .int .i64 a0_1, .string a0_2]] rfl (by (try simp only [List.map_toArray, List.map_cons, List.map_nil]); first | done | rfl) ?_; refine (refreal_calls 4 a0_1 a0_2 _ RA.out).mono ?_; rintro e w' ⟨⟨b, rfl, hP⟩, hb⟩; obtain rfl := real_bits HRA.out HNA.out hP; clear hP; have T2 := Aside0.mk ((by first | exact T.out.next hb | exact T.out.drew.next hb | exact (Two.start w _ _ _ _ _ _ _ _).next hb | exact (Two.start w _ _ _ _ _ _ _ _).drew.next hb) : Two w w' 4 a0_1 a0_2 4 a1_1 a1_2); clear T hb; have T := T2; clear T2; have c0 := T.out.c0; have c1 := T.out.c1; have c2 := T.out.c2; have d0 := T.out.d0; have d1 := T.out.d1; have d2 := T.out.d2; refine ⟨_, rfl, ?_⟩) | ((with_reducible refine gate_callee (f := 60) rfl ?_); (try (refine gate_guard (by rfl) ?_; dsimp only)); refine goesL_ _ rfl rfl Try.func60 (by kernel_rfl) rfl #[.agg #[.int .i64 4, .int .i64 a1_1, .string a1_2]] rfl (by (try simp only [List.map_toArray, List.map_cons, List.map_nil]); first | done | rfl) ?_; refine (refreal_calls 4 a1_1 a1_2 _ RB.out).mono ?_; rintro e w' ⟨⟨b, rfl, hP⟩, hb⟩; obtain rfl := real_bits HRB.out HNB.out hP; clear hP; have T2 := Aside0.mk ((by first | exact T.out.next hb | exact T.out.drew.next hb | exact (Two.start w _ _ _ _ _ _ _ _).next hb | exact (Two.start w _ _ _ _ _ _ _ _).drew.next hb) : Two w w' 4 a0_1 a0_2 4 a1_1 a1_2); clear T hb; have T := T2; clear T2; have c0 := T.out.c0; have c1 := T.out.c1; have c2 := T.out.c2; have d0 := T.out.d0; have d1 := T.out.d1; have d2 := T.out.d2; refine ⟨_, rfl, ?_⟩))
         go_ret2
         exact ⟨rfl, T.out.below⟩
      ·by_cases h5 : a0_0 = 5
       ·subst h5
        rw [if_pos (by simp)] at h
        have HRA := Aside0.mk (show isReal 5 a0_1 a0_2 = true by unfold isReal; rw [hva]; rfl)
        have HRB := Aside0.mk (show isReal 5 a1_1 a1_2 = true by unfold isReal; rw [hvb]; rfl)
        have ra : isReal 5 a0_1 a0_2 = true := HRA.out
        by_cases hn : nanD 5 a0_1 = true ∨ nanD 5 a1_1 = true
        ·rw [if_pos hn] at h
         cases h
         have HN := Aside0.mk hn
         clear hn
         go_enter Try.func43, Try.ntmps43
         go_wp2_with (first | ((with_reducible refine gate_callee (f := 49) rfl ?_); (try (refine gate_guard (by rfl) ?_; dsimp only)); refine goesL_ _ rfl rfl Try.func49 (by kernel_rfl) rfl #[.agg #[.int .i64 5, .int .i64 a0_1, .string a0_2]] rfl (by (try simp only [List.map_toArray, List.map_cons, List.map_nil]); first | done | rfl) ?_; refine (marquetryref09_Fine.calls 1 5 a0_1 a0_2 _ _ hfa).mono ?_; rintro e w' ⟨rfl, hb⟩; have T2 := Aside0.mk ((by first | exact T.out.next hb | exact T.out.drew.next hb | exact (Two.start w _ _ _ _ _ _ _ _).next hb | exact (Two.start w _ _ _ _ _ _ _ _).drew.next hb) : Two w w' 5 a0_1 a0_2 5 a1_1 a1_2); clear T hb; have T := T2; clear T2; have c0 := T.out.c0; have c1 := T.out.c1; have c2 := T.out.c2; have d0 := T.out.d0; have d1 := T.out.d1; have d2 := T.out.d2; refine ⟨_, rfl, ?_⟩) | ((with_reducible refine gate_callee (f := 49) rfl ?_); (try (refine gate_guard (by rfl) ?_; dsimp only)); refine goesL_ _ rfl rfl Try.func49 (by kernel_rfl) rfl #[.agg #[.int .i64 5, .int .i64 a1_1, .string a1_2]] rfl (by (try simp only [List.map_toArray, List.map_cons, List.map_nil]); first | done | rfl) ?_; refine (marquetryref09_Fine.calls 1 5 a1_1 a1_2 _ _ hfb).mono ?_; rintro e w' ⟨rfl, hb⟩; have T2 := Aside0.mk ((by first | exact T.out.next hb | exact T.out.drew.next hb | exact (Two.start w _ _ _ _ _ _ _ _).next hb | exact (Two.start w _ _ _ _ _ _ _ _).drew.next hb) : Two w w' 5 a0_1 a0_2 5 a1_1 a1_2); clear T hb; have T := T2; clear T2; have c0 := T.out.c0; have c1 := T.out.c1; have c2 := T.out.c2; have d0 := T.out.d0; have d1 := T.out.d1; have d2 := T.out.d2; refine ⟨_, rfl, ?_⟩) | ((with_reducible refine gate_callee (f := 60) rfl ?_); (try (refine gate_guard (by rfl) ?_; dsimp only)); refine goesL_ _ rfl rfl Try.func60 (by kernel_rfl) rfl #[.agg #[.int .i64 5, .int .i64 a0_1, .string a0_2]] rfl (by (try simp only [List.map_toArray, List.map_cons, List.map_nil]); first | done | rfl) ?_; refine (refreal_calls 5 a0_1 a0_2 _ RA.out).mono ?_; rintro e w' ⟨⟨b, rfl, hP⟩, hb⟩; have HPA := Aside0.mk hP; clear hP; have T2 := Aside0.mk ((by first | exact T.out.next hb | exact T.out.drew.next hb | exact (Two.start w _ _ _ _ _ _ _ _).next hb | exact (Two.start w _ _ _ _ _ _ _ _).drew.next hb) : Two w w' 5 a0_1 a0_2 5 a1_1 a1_2); clear T hb; have T := T2; clear T2; have c0 := T.out.c0; have c1 := T.out.c1; have c2 := T.out.c2; have d0 := T.out.d0; have d1 := T.out.d1; have d2 := T.out.d2; refine ⟨_, rfl, ?_⟩) | ((with_reducible refine gate_callee (f := 60) rfl ?_); (try (refine gate_guard (by rfl) ?_; dsimp only)); refine goesL_ _ rfl rfl Try.func60 (by kernel_rfl) rfl #[.agg #[.int .i64 5, .int .i64 a1_1, .string a1_2]] rfl (by (try simp only [List.map_toArray, List.map_cons, List.map_nil]); first | done | rfl) ?_; refine (refreal_calls 5 a1_1 a1_2 _ RB.out).mono ?_; rintro e w' ⟨⟨c, rfl, hP⟩, hb⟩; have hno := order_none HRA.out HRB.out HPA.out hP HN.out; have q1 : (FloatKind.f64.format.order b c == some Ordering.lt) = false := (by rw [hno]; rfl); have q2 : (FloatKind.f64.format.order b c == some Ordering.gt) = false := (by rw [hno]; rfl); have q3 : (FloatKind.f64.format.order b c == some Ordering.eq) = false := (by rw [hno]; rfl); clear hP hno; have T2 := Aside0.mk ((by first | exact T.out.next hb | exact T.out.drew.next hb | exact (Two.start w _ _ _ _ _ _ _ _).next hb | exact (Two.start w _ _ _ _ _ _ _ _).drew.next hb) : Two w w' 5 a0_1 a0_2 5 a1_1 a1_2); clear T hb; have T := T2; clear T2; have c0 := T.out.c0; have c1 := T.out.c1; have c2 := T.out.c2; have d0 := T.out.d0; have d1 := T.out.d1; have d2 := T.out.d2; refine ⟨_, rfl, ?_⟩))
         go_ret2
         exact ⟨rfl, T.out.below⟩
        ·rw [if_neg hn] at h
         have HNA := Aside0.mk (show nanD 5 a0_1 = false by cases hq : nanD 5 a0_1 with | true => exact absurd (Or.inl hq) hn | false => rfl)
         have HNB := Aside0.mk (show nanD 5 a1_1 = false by cases hq : nanD 5 a1_1 with | true => exact absurd (Or.inr hq) hn | false => rfl)
         clear hn
         obtain ⟨o, ho⟩ := order_num (rbits_num 5 a0_1 HNA.out) (rbits_num 5 a1_1 HNB.out)
         have hoi : fcmpI (rbits 5 a0_1) (rbits 5 a1_1) = ordInt o := by unfold fcmpI; rw [ho]
         rw [hoi] at h
         clear hoi
         cases h
         cases o
         ·have q1 : (FloatKind.f64.format.order (rbits 5 a0_1) (rbits 5 a1_1) == some Ordering.lt) = true := by rw [ho]; rfl
          clear ho
          go_enter Try.func43, Try.ntmps43
          go_wp2_with (first | ((with_reducible refine gate_callee (f := 49) rfl ?_); (try (refine gate_guard (by rfl) ?_; dsimp only)); refine goesL_ _ rfl rfl Try.func49 (by kernel_rfl) rfl #[.agg #[.int .i64 5, .int .i64 a0_1, .string a0_2]] rfl (by (try simp only [List.map_toArray, List.map_cons, List.map_nil]); first | done | rfl) ?_; refine (marquetryref09_Fine.calls 1 5 a0_1 a0_2 _ _ hfa).mono ?_; rintro e w' ⟨rfl, hb⟩; have T2 := Aside0.mk ((by first | exact T.out.next hb | exact T.out.drew.next hb | exact (Two.start w _ _ _ _ _ _ _ _).next hb | exact (Two.start w _ _ _ _ _ _ _ _).drew.next hb) : Two w w' 5 a0_1 a0_2 5 a1_1 a1_2); clear T hb; have T := T2; clear T2; have c0 := T.out.c0; have c1 := T.out.c1; have c2 := T.out.c2; have d0 := T.out.d0; have d1 := T.out.d1; have d2 := T.out.d2; refine ⟨_, rfl, ?_⟩) | ((with_reducible refine gate_callee (f := 49) rfl ?_); (try (refine gate_guard (by rfl) ?_; dsimp only)); refine goesL_ _ rfl rfl Try.func49 (by kernel_rfl) rfl #[.agg #[.int .i64 5, .int .i64 a1_1, .string a1_2]] rfl (by (try simp only [List.map_toArray, List.map_cons, List.map_nil]); first | done | rfl) ?_; refine (marquetryref09_Fine.calls 1 5 a1_1 a1_2 _ _ hfb).mono ?_; rintro e w' ⟨rfl, hb⟩; have T2 := Aside0.mk ((by first | exact T.out.next hb | exact T.out.drew.next hb | exact (Two.start w _ _ _ _ _ _ _ _).next hb | exact (Two.start w _ _ _ _ _ _ _ _).drew.next hb) : Two w w' 5 a0_1 a0_2 5 a1_1 a1_2); clear T hb; have T := T2; clear T2; have c0 := T.out.c0; have c1 := T.out.c1; have c2 := T.out.c2; have d0 := T.out.d0; have d1 := T.out.d1; have d2 := T.out.d2; refine ⟨_, rfl, ?_⟩) | ((with_reducible refine gate_callee (f := 60) rfl ?_); (try (refine gate_guard (by rfl) ?_; dsimp only)); refine goesL_ _ rfl rfl Try.func60 (by kernel_rfl) rfl #[.agg #[.int .i64 5, .int .i64 a0_1, .string a0_2]] rfl (by (try simp only [List.map_toArray, List.map_cons, List.map_nil]); first | done | rfl) ?_; refine (refreal_calls 5 a0_1 a0_2 _ RA.out).mono ?_; rintro e w' ⟨⟨b, rfl, hP⟩, hb⟩; obtain rfl := real_bits HRA.out HNA.out hP; clear hP; have T2 := Aside0.mk ((by first | exact T.out.next hb | exact T.out.drew.next hb | exact (Two.start w _ _ _ _ _ _ _ _).next hb | exact (Two.start w _ _ _ _ _ _ _ _).drew.next hb) : Two w w' 5 a0_1 a0_2 5 a1_1 a1_2); clear T hb; have T := T2; clear T2; have c0 := T.out.c0; have c1 := T.out.c1; have c2 := T.out.c2; have d0 := T.out.d0; have d1 := T.out.d1; have d2 := T.out.d2; refine ⟨_, rfl, ?_⟩) | ((with_reducible refine gate_callee (f := 60) rfl ?_); (try (refine gate_guard (by rfl) ?_; dsimp only)); refine goesL_ _ rfl rfl Try.func60 (by kernel_rfl) rfl #[.agg #[.int .i64 5, .int .i64 a1_1, .string a1_2]] rfl (by (try simp only [List.map_toArray, List.map_cons, List.map_nil]); first | done | rfl) ?_; refine (refreal_calls 5 a1_1 a1_2 _ RB.out).mono ?_; rintro e w' ⟨⟨b, rfl, hP⟩, hb⟩; obtain rfl := real_bits HRB.out HNB.out hP; clear hP; have T2 := Aside0.mk ((by first | exact T.out.next hb | exact T.out.drew.next hb | exact (Two.start w _ _ _ _ _ _ _ _).next hb | exact (Two.start w _ _ _ _ _ _ _ _).drew.next hb) : Two w w' 5 a0_1 a0_2 5 a1_1 a1_2); clear T hb; have T := T2; clear T2; have c0 := T.out.c0; have c1 := T.out.c1; have c2 := T.out.c2; have d0 := T.out.d0; have d1 := T.out.d1; have d2 := T.out.d2; refine ⟨_, rfl, ?_⟩))
          go_ret2
          exact ⟨rfl, T.out.below⟩
         ·have q1 : (FloatKind.f64.format.order (rbits 5 a0_1) (rbits 5 a1_1) == some Ordering.lt) = false := by rw [ho]; rfl
          have q2 : (FloatKind.f64.format.order (rbits 5 a0_1) (rbits 5 a1_1) == some Ordering.gt) = false := by rw [ho]; rfl
          have q3 : (FloatKind.f64.format.order (rbits 5 a0_1) (rbits 5 a1_1) == some Ordering.eq) = true := by rw [ho]; rfl
          clear ho
          go_enter Try.func43, Try.ntmps43
          go_wp2_with (first | ((with_reducible refine gate_callee (f := 49) rfl ?_); (try (refine gate_guard (by rfl) ?_; dsimp only)); refine goesL_ _ rfl rfl Try.func49 (by kernel_rfl) rfl #[.agg #[.int .i64 5, .int .i64 a0_1, .string a0_2]] rfl (by (try simp only [List.map_toArray, List.map_cons, List.map_nil]); first | done | rfl) ?_; refine (marquetryref09_Fine.calls 1 5 a0_1 a0_2 _ _ hfa).mono ?_; rintro e w' ⟨rfl, hb⟩; have T2 := Aside0.mk ((by first | exact T.out.next hb | exact T.out.drew.next hb | exact (Two.start w _ _ _ _ _ _ _ _).next hb | exact (Two.start w _ _ _ _ _ _ _ _).drew.next hb) : Two w w' 5 a0_1 a0_2 5 a1_1 a1_2); clear T hb; have T := T2; clear T2; have c0 := T.out.c0; have c1 := T.out.c1; have c2 := T.out.c2; have d0 := T.out.d0; have d1 := T.out.d1; have d2 := T.out.d2; refine ⟨_, rfl, ?_⟩) | ((with_reducible refine gate_callee (f := 49) rfl ?_); (try (refine gate_guard (by rfl) ?_; dsimp only)); refine goesL_ _ rfl rfl Try.func49 (by kernel_rfl) rfl #[.agg #[.int .i64 5, .int .i64 a1_1, .string a1_2]] rfl (by (try simp only [List.map_toArray, List.map_cons, List.map_nil]); first | done | rfl) ?_; refine (marquetryref09_Fine.calls 1 5 a1_1 a1_2 _ _ hfb).mono ?_; rintro e w' ⟨rfl, hb⟩; have T2 := Aside0.mk ((by first | exact T.out.next hb | exact T.out.drew.next hb | exact (Two.start w _ _ _ _ _ _ _ _).next hb | exact (Two.start w _ _ _ _ _ _ _ _).drew.next hb) : Two w w' 5 a0_1 a0_2 5 a1_1 a1_2); clear T hb; have T := T2; clear T2; have c0 := T.out.c0; have c1 := T.out.c1; have c2 := T.out.c2; have d0 := T.out.d0; have d1 := T.out.d1; have d2 := T.out.d2; refine ⟨_, rfl, ?_⟩) | ((with_reducible refine gate_callee (f := 60) rfl ?_); (try (refine gate_guard (by rfl) ?_; dsimp only)); refine goesL_ _ rfl rfl Try.func60 (by kernel_rfl) rfl #[.agg #[.int .i64 5, .int .i64 a0_1, .string a0_2]] rfl (by (try simp only [List.map_toArray, List.map_cons, List.map_nil]); first | done | rfl) ?_; refine (refreal_calls 5 a0_1 a0_2 _ RA.out).mono ?_; rintro e w' ⟨⟨b, rfl, hP⟩, hb⟩; obtain rfl := real_bits HRA.out HNA.out hP; clear hP; have T2 := Aside0.mk ((by first | exact T.out.next hb | exact T.out.drew.next hb | exact (Two.start w _ _ _ _ _ _ _ _).next hb | exact (Two.start w _ _ _ _ _ _ _ _).drew.next hb) : Two w w' 5 a0_1 a0_2 5 a1_1 a1_2); clear T hb; have T := T2; clear T2; have c0 := T.out.c0; have c1 := T.out.c1; have c2 := T.out.c2; have d0 := T.out.d0; have d1 := T.out.d1; have d2 := T.out.d2; refine ⟨_, rfl, ?_⟩) | ((with_reducible refine gate_callee (f := 60) rfl ?_); (try (refine gate_guard (by rfl) ?_; dsimp only)); refine goesL_ _ rfl rfl Try.func60 (by kernel_rfl) rfl #[.agg #[.int .i64 5, .int .i64 a1_1, .string a1_2]] rfl (by (try simp only [List.map_toArray, List.map_cons, List.map_nil]); first | done | rfl) ?_; refine (refreal_calls 5 a1_1 a1_2 _ RB.out).mono ?_; rintro e w' ⟨⟨b, rfl, hP⟩, hb⟩; obtain rfl := real_bits HRB.out HNB.out hP; clear hP; have T2 := Aside0.mk ((by first | exact T.out.next hb | exact T.out.drew.next hb | exact (Two.start w _ _ _ _ _ _ _ _).next hb | exact (Two.start w _ _ _ _ _ _ _ _).drew.next hb) : Two w w' 5 a0_1 a0_2 5 a1_1 a1_2); clear T hb; have T := T2; clear T2; have c0 := T.out.c0; have c1 := T.out.c1; have c2 := T.out.c2; have d0 := T.out.d0; have d1 := T.out.d1; have d2 := T.out.d2; refine ⟨_, rfl, ?_⟩))
          go_ret2
          exact ⟨rfl, T.out.below⟩
         ·have q1 : (FloatKind.f64.format.order (rbits 5 a0_1) (rbits 5 a1_1) == some Ordering.lt) = false := by rw [ho]; rfl
          have q2 : (FloatKind.f64.format.order (rbits 5 a0_1) (rbits 5 a1_1) == some Ordering.gt) = true := by rw [ho]; rfl
          clear ho
          go_enter Try.func43, Try.ntmps43
          go_wp2_with (first | ((with_reducible refine gate_callee (f := 49) rfl ?_); (try (refine gate_guard (by rfl) ?_; dsimp only)); refine goesL_ _ rfl rfl Try.func49 (by kernel_rfl) rfl #[.agg #[.int .i64 5, .int .i64 a0_1, .string a0_2]] rfl (by (try simp only [List.map_toArray, List.map_cons, List.map_nil]); first | done | rfl) ?_; refine (marquetryref09_Fine.calls 1 5 a0_1 a0_2 _ _ hfa).mono ?_; rintro e w' ⟨rfl, hb⟩; have T2 := Aside0.mk ((by first | exact T.out.next hb | exact T.out.drew.next hb | exact (Two.start w _ _ _ _ _ _ _ _).next hb | exact (Two.start w _ _ _ _ _ _ _ _).drew.next hb) : Two w w' 5 a0_1 a0_2 5 a1_1 a1_2); clear T hb; have T := T2; clear T2; have c0 := T.out.c0; have c1 := T.out.c1; have c2 := T.out.c2; have d0 := T.out.d0; have d1 := T.out.d1; have d2 := T.out.d2; refine ⟨_, rfl, ?_⟩) | ((with_reducible refine gate_callee (f := 49) rfl ?_); (try (refine gate_guard (by rfl) ?_; dsimp only)); refine goesL_ _ rfl rfl Try.func49 (by kernel_rfl) rfl #[.agg #[.int .i64 5, .int .i64 a1_1, .string a1_2]] rfl (by (try simp only [List.map_toArray, List.map_cons, List.map_nil]); first | done | rfl) ?_; refine (marquetryref09_Fine.calls 1 5 a1_1 a1_2 _ _ hfb).mono ?_; rintro e w' ⟨rfl, hb⟩; have T2 := Aside0.mk ((by first | exact T.out.next hb | exact T.out.drew.next hb | exact (Two.start w _ _ _ _ _ _ _ _).next hb | exact (Two.start w _ _ _ _ _ _ _ _).drew.next hb) : Two w w' 5 a0_1 a0_2 5 a1_1 a1_2); clear T hb; have T := T2; clear T2; have c0 := T.out.c0; have c1 := T.out.c1; have c2 := T.out.c2; have d0 := T.out.d0; have d1 := T.out.d1; have d2 := T.out.d2; refine ⟨_, rfl, ?_⟩) | ((with_reducible refine gate_callee (f := 60) rfl ?_); (try (refine gate_guard (by rfl) ?_; dsimp only)); refine goesL_ _ rfl rfl Try.func60 (by kernel_rfl) rfl #[.agg #[.int .i64 5, .int .i64 a0_1, .string a0_2]] rfl (by (try simp only [List.map_toArray, List.map_cons, List.map_nil]); first | done | rfl) ?_; refine (refreal_calls 5 a0_1 a0_2 _ RA.out).mono ?_; rintro e w' ⟨⟨b, rfl, hP⟩, hb⟩; obtain rfl := real_bits HRA.out HNA.out hP; clear hP; have T2 := Aside0.mk ((by first | exact T.out.next hb | exact T.out.drew.next hb | exact (Two.start w _ _ _ _ _ _ _ _).next hb | exact (Two.start w _ _ _ _ _ _ _ _).drew.next hb) : Two w w' 5 a0_1 a0_2 5 a1_1 a1_2); clear T hb; have T := T2; clear T2; have c0 := T.out.c0; have c1 := T.out.c1; have c2 := T.out.c2; have d0 := T.out.d0; have d1 := T.out.d1; have d2 := T.out.d2; refine ⟨_, rfl, ?_⟩) | ((with_reducible refine gate_callee (f := 60) rfl ?_); (try (refine gate_guard (by rfl) ?_; dsimp only)); refine goesL_ _ rfl rfl Try.func60 (by kernel_rfl) rfl #[.agg #[.int .i64 5, .int .i64 a1_1, .string a1_2]] rfl (by (try simp only [List.map_toArray, List.map_cons, List.map_nil]); first | done | rfl) ?_; refine (refreal_calls 5 a1_1 a1_2 _ RB.out).mono ?_; rintro e w' ⟨⟨b, rfl, hP⟩, hb⟩; obtain rfl := real_bits HRB.out HNB.out hP; clear hP; have T2 := Aside0.mk ((by first | exact T.out.next hb | exact T.out.drew.next hb | exact (Two.start w _ _ _ _ _ _ _ _).next hb | exact (Two.start w _ _ _ _ _ _ _ _).drew.next hb) : Two w w' 5 a0_1 a0_2 5 a1_1 a1_2); clear T hb; have T := T2; clear T2; have c0 := T.out.c0; have c1 := T.out.c1; have c2 := T.out.c2; have d0 := T.out.d0; have d1 := T.out.d1; have d2 := T.out.d2; refine ⟨_, rfl, ?_⟩))
          go_ret2
          exact ⟨rfl, T.out.below⟩
       ·rw [if_neg (by omega)] at h
        have hRA : isReal a0_0 a0_1 a0_2 = false := by unfold isReal; simp [h4, h5]
        have hRB : isReal a0_0 a1_1 a1_2 = false := by unfold isReal; simp [h4, h5]
        by_cases hl : a0_1 < a1_1
        ·rw [if_pos hl] at h
         cases h
         have q1 : decide (a0_1 < a1_1) = true := decide_eq_true hl
         clear hl
         go_enter Try.func43, Try.ntmps43
         go_wp2_with (first | ((with_reducible refine gate_callee (f := 49) rfl ?_); (try (refine gate_guard (by rfl) ?_; dsimp only)); refine goesL_ _ rfl rfl Try.func49 (by kernel_rfl) rfl #[.agg #[.int .i64 a0_0, .int .i64 a0_1, .string a0_2]] rfl (by (try simp only [List.map_toArray, List.map_cons, List.map_nil]); first | done | rfl) ?_; refine (marquetryref09_Fine.calls 1 a0_0 a0_1 a0_2 _ _ hfa).mono ?_; rintro e w' ⟨rfl, hb⟩; have T2 := Aside0.mk ((by first | exact T.out.next hb | exact T.out.drew.next hb | exact (Two.start w _ _ _ _ _ _ _ _).next hb | exact (Two.start w _ _ _ _ _ _ _ _).drew.next hb) : Two w w' a0_0 a0_1 a0_2 a0_0 a1_1 a1_2); clear T hb; have T := T2; clear T2; have c0 := T.out.c0; have c1 := T.out.c1; have c2 := T.out.c2; have d0 := T.out.d0; have d1 := T.out.d1; have d2 := T.out.d2; refine ⟨_, rfl, ?_⟩) | ((with_reducible refine gate_callee (f := 49) rfl ?_); (try (refine gate_guard (by rfl) ?_; dsimp only)); refine goesL_ _ rfl rfl Try.func49 (by kernel_rfl) rfl #[.agg #[.int .i64 a0_0, .int .i64 a1_1, .string a1_2]] rfl (by (try simp only [List.map_toArray, List.map_cons, List.map_nil]); first | done | rfl) ?_; refine (marquetryref09_Fine.calls 1 a0_0 a1_1 a1_2 _ _ hfb).mono ?_; rintro e w' ⟨rfl, hb⟩; have T2 := Aside0.mk ((by first | exact T.out.next hb | exact T.out.drew.next hb | exact (Two.start w _ _ _ _ _ _ _ _).next hb | exact (Two.start w _ _ _ _ _ _ _ _).drew.next hb) : Two w w' a0_0 a0_1 a0_2 a0_0 a1_1 a1_2); clear T hb; have T := T2; clear T2; have c0 := T.out.c0; have c1 := T.out.c1; have c2 := T.out.c2; have d0 := T.out.d0; have d1 := T.out.d1; have d2 := T.out.d2; refine ⟨_, rfl, ?_⟩) | ((with_reducible refine gate_callee (f := 60) rfl ?_); (try (refine gate_guard (by rfl) ?_; dsimp only)); refine goesL_ _ rfl rfl Try.func60 (by kernel_rfl) rfl #[.agg #[.int .i64 a0_0, .int .i64 a0_1, .string a0_2]] rfl (by (try simp only [List.map_toArray, List.map_cons, List.map_nil]); first | done | rfl) ?_; refine (refreal_calls a0_0 a0_1 a0_2 _ RA.out).mono ?_; rintro e w' ⟨⟨b, rfl, hP⟩, hb⟩; clear hP; have T2 := Aside0.mk ((by first | exact T.out.next hb | exact T.out.drew.next hb | exact (Two.start w _ _ _ _ _ _ _ _).next hb | exact (Two.start w _ _ _ _ _ _ _ _).drew.next hb) : Two w w' a0_0 a0_1 a0_2 a0_0 a1_1 a1_2); clear T hb; have T := T2; clear T2; have c0 := T.out.c0; have c1 := T.out.c1; have c2 := T.out.c2; have d0 := T.out.d0; have d1 := T.out.d1; have d2 := T.out.d2; refine ⟨_, rfl, ?_⟩) | ((with_reducible refine gate_callee (f := 60) rfl ?_); (try (refine gate_guard (by rfl) ?_; dsimp only)); refine goesL_ _ rfl rfl Try.func60 (by kernel_rfl) rfl #[.agg #[.int .i64 a0_0, .int .i64 a1_1, .string a1_2]] rfl (by (try simp only [List.map_toArray, List.map_cons, List.map_nil]); first | done | rfl) ?_; refine (refreal_calls a0_0 a1_1 a1_2 _ RB.out).mono ?_; rintro e w' ⟨⟨c, rfl, hP⟩, hb⟩; clear hP; have T2 := Aside0.mk ((by first | exact T.out.next hb | exact T.out.drew.next hb | exact (Two.start w _ _ _ _ _ _ _ _).next hb | exact (Two.start w _ _ _ _ _ _ _ _).drew.next hb) : Two w w' a0_0 a0_1 a0_2 a0_0 a1_1 a1_2); clear T hb; have T := T2; clear T2; have c0 := T.out.c0; have c1 := T.out.c1; have c2 := T.out.c2; have d0 := T.out.d0; have d1 := T.out.d1; have d2 := T.out.d2; refine ⟨_, rfl, ?_⟩))
         go_ret2
         exact ⟨rfl, T.out.below⟩
        ·rw [if_neg hl] at h
         have q1 : decide (a0_1 < a1_1) = false := decide_eq_false hl
         by_cases hg : a0_1 > a1_1
         ·rw [if_pos hg] at h
          cases h
          have q2 : decide (a0_1 > a1_1) = true := decide_eq_true hg
          have q3 : decide (a1_1 < a0_1) = true := decide_eq_true hg
          go_enter Try.func43, Try.ntmps43
          go_wp2_with (first | ((with_reducible refine gate_callee (f := 49) rfl ?_); (try (refine gate_guard (by rfl) ?_; dsimp only)); refine goesL_ _ rfl rfl Try.func49 (by kernel_rfl) rfl #[.agg #[.int .i64 a0_0, .int .i64 a0_1, .string a0_2]] rfl (by (try simp only [List.map_toArray, List.map_cons, List.map_nil]); first | done | rfl) ?_; refine (marquetryref09_Fine.calls 1 a0_0 a0_1 a0_2 _ _ hfa).mono ?_; rintro e w' ⟨rfl, hb⟩; have T2 := Aside0.mk ((by first | exact T.out.next hb | exact T.out.drew.next hb | exact (Two.start w _ _ _ _ _ _ _ _).next hb | exact (Two.start w _ _ _ _ _ _ _ _).drew.next hb) : Two w w' a0_0 a0_1 a0_2 a0_0 a1_1 a1_2); clear T hb; have T := T2; clear T2; have c0 := T.out.c0; have c1 := T.out.c1; have c2 := T.out.c2; have d0 := T.out.d0; have d1 := T.out.d1; have d2 := T.out.d2; refine ⟨_, rfl, ?_⟩) | ((with_reducible refine gate_callee (f := 49) rfl ?_); (try (refine gate_guard (by rfl) ?_; dsimp only)); refine goesL_ _ rfl rfl Try.func49 (by kernel_rfl) rfl #[.agg #[.int .i64 a0_0, .int .i64 a1_1, .string a1_2]] rfl (by (try simp only [List.map_toArray, List.map_cons, List.map_nil]); first | done | rfl) ?_; refine (marquetryref09_Fine.calls 1 a0_0 a1_1 a1_2 _ _ hfb).mono ?_; rintro e w' ⟨rfl, hb⟩; have T2 := Aside0.mk ((by first | exact T.out.next hb | exact T.out.drew.next hb | exact (Two.start w _ _ _ _ _ _ _ _).next hb | exact (Two.start w _ _ _ _ _ _ _ _).drew.next hb) : Two w w' a0_0 a0_1 a0_2 a0_0 a1_1 a1_2); clear T hb; have T := T2; clear T2; have c0 := T.out.c0; have c1 := T.out.c1; have c2 := T.out.c2; have d0 := T.out.d0; have d1 := T.out.d1; have d2 := T.out.d2; refine ⟨_, rfl, ?_⟩) | ((with_reducible refine gate_callee (f := 60) rfl ?_); (try (refine gate_guard (by rfl) ?_; dsimp only)); refine goesL_ _ rfl rfl Try.func60 (by kernel_rfl) rfl #[.agg #[.int .i64 a0_0, .int .i64 a0_1, .string a0_2]] rfl (by (try simp only [List.map_toArray, List.map_cons, List.map_nil]); first | done | rfl) ?_; refine (refreal_calls a0_0 a0_1 a0_2 _ RA.out).mono ?_; rintro e w' ⟨⟨b, rfl, hP⟩, hb⟩; clear hP; have T2 := Aside0.mk ((by first | exact T.out.next hb | exact T.out.drew.next hb | exact (Two.start w _ _ _ _ _ _ _ _).next hb | exact (Two.start w _ _ _ _ _ _ _ _).drew.next hb) : Two w w' a0_0 a0_1 a0_2 a0_0 a1_1 a1_2); clear T hb; have T := T2; clear T2; have c0 := T.out.c0; have c1 := T.out.c1; have c2 := T.out.c2; have d0 := T.out.d0; have d1 := T.out.d1; have d2 := T.out.d2; refine ⟨_, rfl, ?_⟩) | ((with_reducible refine gate_callee (f := 60) rfl ?_); (try (refine gate_guard (by rfl) ?_; dsimp only)); refine goesL_ _ rfl rfl Try.func60 (by kernel_rfl) rfl #[.agg #[.int .i64 a0_0, .int .i64 a1_1, .string a1_2]] rfl (by (try simp only [List.map_toArray, List.map_cons, List.map_nil]); first | done | rfl) ?_; refine (refreal_calls a0_0 a1_1 a1_2 _ RB.out).mono ?_; rintro e w' ⟨⟨c, rfl, hP⟩, hb⟩; clear hP; have T2 := Aside0.mk ((by first | exact T.out.next hb | exact T.out.drew.next hb | exact (Two.start w _ _ _ _ _ _ _ _).next hb | exact (Two.start w _ _ _ _ _ _ _ _).drew.next hb) : Two w w' a0_0 a0_1 a0_2 a0_0 a1_1 a1_2); clear T hb; have T := T2; clear T2; have c0 := T.out.c0; have c1 := T.out.c1; have c2 := T.out.c2; have d0 := T.out.d0; have d1 := T.out.d1; have d2 := T.out.d2; refine ⟨_, rfl, ?_⟩))
          go_ret2
          exact ⟨rfl, T.out.below⟩
         ·rw [if_neg hg] at h
          cases h
          have q2 : decide (a0_1 > a1_1) = false := decide_eq_false hg
          have q3 : decide (a1_1 < a0_1) = false := decide_eq_false hg
          go_enter Try.func43, Try.ntmps43
          go_wp2_with (first | ((with_reducible refine gate_callee (f := 49) rfl ?_); (try (refine gate_guard (by rfl) ?_; dsimp only)); refine goesL_ _ rfl rfl Try.func49 (by kernel_rfl) rfl #[.agg #[.int .i64 a0_0, .int .i64 a0_1, .string a0_2]] rfl (by (try simp only [List.map_toArray, List.map_cons, List.map_nil]); first | done | rfl) ?_; refine (marquetryref09_Fine.calls 1 a0_0 a0_1 a0_2 _ _ hfa).mono ?_; rintro e w' ⟨rfl, hb⟩; have T2 := Aside0.mk ((by first | exact T.out.next hb | exact T.out.drew.next hb | exact (Two.start w _ _ _ _ _ _ _ _).next hb | exact (Two.start w _ _ _ _ _ _ _ _).drew.next hb) : Two w w' a0_0 a0_1 a0_2 a0_0 a1_1 a1_2); clear T hb; have T := T2; clear T2; have c0 := T.out.c0; have c1 := T.out.c1; have c2 := T.out.c2; have d0 := T.out.d0; have d1 := T.out.d1; have d2 := T.out.d2; refine ⟨_, rfl, ?_⟩) | ((with_reducible refine gate_callee (f := 49) rfl ?_); (try (refine gate_guard (by rfl) ?_; dsimp only)); refine goesL_ _ rfl rfl Try.func49 (by kernel_rfl) rfl #[.agg #[.int .i64 a0_0, .int .i64 a1_1, .string a1_2]] rfl (by (try simp only [List.map_toArray, List.map_cons, List.map_nil]); first | done | rfl) ?_; refine (marquetryref09_Fine.calls 1 a0_0 a1_1 a1_2 _ _ hfb).mono ?_; rintro e w' ⟨rfl, hb⟩; have T2 := Aside0.mk ((by first | exact T.out.next hb | exact T.out.drew.next hb | exact (Two.start w _ _ _ _ _ _ _ _).next hb | exact (Two.start w _ _ _ _ _ _ _ _).drew.next hb) : Two w w' a0_0 a0_1 a0_2 a0_0 a1_1 a1_2); clear T hb; have T := T2; clear T2; have c0 := T.out.c0; have c1 := T.out.c1; have c2 := T.out.c2; have d0 := T.out.d0; have d1 := T.out.d1; have d2 := T.out.d2; refine ⟨_, rfl, ?_⟩) | ((with_reducible refine gate_callee (f := 60) rfl ?_); (try (refine gate_guard (by rfl) ?_; dsimp only)); refine goesL_ _ rfl rfl Try.func60 (by kernel_rfl) rfl #[.agg #[.int .i64 a0_0, .int .i64 a0_1, .string a0_2]] rfl (by (try simp only [List.map_toArray, List.map_cons, List.map_nil]); first | done | rfl) ?_; refine (refreal_calls a0_0 a0_1 a0_2 _ RA.out).mono ?_; rintro e w' ⟨⟨b, rfl, hP⟩, hb⟩; clear hP; have T2 := Aside0.mk ((by first | exact T.out.next hb | exact T.out.drew.next hb | exact (Two.start w _ _ _ _ _ _ _ _).next hb | exact (Two.start w _ _ _ _ _ _ _ _).drew.next hb) : Two w w' a0_0 a0_1 a0_2 a0_0 a1_1 a1_2); clear T hb; have T := T2; clear T2; have c0 := T.out.c0; have c1 := T.out.c1; have c2 := T.out.c2; have d0 := T.out.d0; have d1 := T.out.d1; have d2 := T.out.d2; refine ⟨_, rfl, ?_⟩) | ((with_reducible refine gate_callee (f := 60) rfl ?_); (try (refine gate_guard (by rfl) ?_; dsimp only)); refine goesL_ _ rfl rfl Try.func60 (by kernel_rfl) rfl #[.agg #[.int .i64 a0_0, .int .i64 a1_1, .string a1_2]] rfl (by (try simp only [List.map_toArray, List.map_cons, List.map_nil]); first | done | rfl) ?_; refine (refreal_calls a0_0 a1_1 a1_2 _ RB.out).mono ?_; rintro e w' ⟨⟨c, rfl, hP⟩, hb⟩; clear hP; have T2 := Aside0.mk ((by first | exact T.out.next hb | exact T.out.drew.next hb | exact (Two.start w _ _ _ _ _ _ _ _).next hb | exact (Two.start w _ _ _ _ _ _ _ _).drew.next hb) : Two w w' a0_0 a0_1 a0_2 a0_0 a1_1 a1_2); clear T hb; have T := T2; clear T2; have c0 := T.out.c0; have c1 := T.out.c1; have c2 := T.out.c2; have d0 := T.out.d0; have d1 := T.out.d1; have d2 := T.out.d2; refine ⟨_, rfl, ?_⟩))
          go_ret2
          exact ⟨rfl, T.out.below⟩
   ·rw [if_pos (Or.inr (Or.inr hk))] at h
    cases h
    have bk1 : (a0_0 != a1_0) = true := bne_iff_ne.mpr hk
    have bk2 : (a0_0 == a1_0) = false := beq_eq_false_iff_ne.mpr hk
    go_enter Try.func43, Try.ntmps43
    go_wp2_with (first | ((with_reducible refine gate_callee (f := 49) rfl ?_); (try (refine gate_guard (by rfl) ?_; dsimp only)); refine goesL_ _ rfl rfl Try.func49 (by kernel_rfl) rfl #[.agg #[.int .i64 a0_0, .int .i64 a0_1, .string a0_2]] rfl (by (try simp only [List.map_toArray, List.map_cons, List.map_nil]); first | done | rfl) ?_; refine (marquetryref09_Fine.calls 1 a0_0 a0_1 a0_2 _ _ hfa).mono ?_; rintro e w' ⟨rfl, hb⟩; have T2 := Aside0.mk ((by first | exact T.out.next hb | exact T.out.drew.next hb | exact (Two.start w _ _ _ _ _ _ _ _).next hb | exact (Two.start w _ _ _ _ _ _ _ _).drew.next hb) : Two w w' a0_0 a0_1 a0_2 a1_0 a1_1 a1_2); clear T hb; have T := T2; clear T2; have c0 := T.out.c0; have c1 := T.out.c1; have c2 := T.out.c2; have d0 := T.out.d0; have d1 := T.out.d1; have d2 := T.out.d2; refine ⟨_, rfl, ?_⟩) | ((with_reducible refine gate_callee (f := 49) rfl ?_); (try (refine gate_guard (by rfl) ?_; dsimp only)); refine goesL_ _ rfl rfl Try.func49 (by kernel_rfl) rfl #[.agg #[.int .i64 a1_0, .int .i64 a1_1, .string a1_2]] rfl (by (try simp only [List.map_toArray, List.map_cons, List.map_nil]); first | done | rfl) ?_; refine (marquetryref09_Fine.calls 1 a1_0 a1_1 a1_2 _ _ hfb).mono ?_; rintro e w' ⟨rfl, hb⟩; have T2 := Aside0.mk ((by first | exact T.out.next hb | exact T.out.drew.next hb | exact (Two.start w _ _ _ _ _ _ _ _).next hb | exact (Two.start w _ _ _ _ _ _ _ _).drew.next hb) : Two w w' a0_0 a0_1 a0_2 a1_0 a1_1 a1_2); clear T hb; have T := T2; clear T2; have c0 := T.out.c0; have c1 := T.out.c1; have c2 := T.out.c2; have d0 := T.out.d0; have d1 := T.out.d1; have d2 := T.out.d2; refine ⟨_, rfl, ?_⟩))
    all_goals (first | (exfalso; simp_all; done) | (go_ret2; exact ⟨rfl, T.out.below⟩))


end Go.Proofs.Ytncehlbhjoejhaa.H
end
section
-- Laid by this session's hprint.py, out of the kit's print.py and texts of the session. Not trusted: Lean checks it.
namespace Go.Proofs.Ytncehlbhjoejhaa.H
open Go.RowKit Go.Proofs.YtncehlbhjoejhaaW.PrintWords Go.Proofs.YtncehlbhjoejhaaW.PrintLast Go.Proofs.YtncehlbhjoejhaaW.PrintMore
attribute [local go_sem] max2_int min2_int max_two min_two max_three min_three max_four min_four   -- for this text's walks alone
set_option linter.unusedVariables false
set_option linter.unusedSimpArgs false

def marquetryref22_placed.f (k : Nat) (a0_0 : Int) (a0_1 : Int) (a0_2 : ByteArray) : Option (Bool) := (marquetryref09_Compare.f k a0_0 a0_1 a0_2 a0_0 a0_1 a0_2).bind fun bt176 => (some bt176.2)
set_option maxHeartbeats 8000000 in
set_option maxRecDepth 100000 in
theorem marquetryref22_placed.calls (k : Nat) (a0_0 : Int) (a0_1 : Int) (a0_2 : ByteArray) (r : Bool) (w : World) (h : marquetryref22_placed.f k a0_0 a0_1 a0_2 = some r) :
  Calls Try.prog 42 #[.agg #[.int .i64 a0_0, .int .i64 a0_1, .string a0_2]] w fun e w' => e = .returned (.bool r) ∧ Below w.heap.size w w' := by
 have hu29 := Try.underlying29
 have HB := Aside0.mk (Below.refl w.heap.size w)
 have H : ((marquetryref09_Compare.f k a0_0 a0_1 a0_2 a0_0 a0_1 a0_2).bind fun bt176 => (some bt176.2)) = some r := h
 clear h
 replace H := Option.bind_eq_some_iff.mp H
 obtain ⟨⟨t176, t177⟩, A20, H⟩ := H
 replace H : (some t177) = some r := H
 have A2 := Aside0.mk A20
 clear A20
 obtain rfl := Option.some.inj H
 go_enter Try.func42, Try.ntmps42
 go_wp2_with (first | ((with_reducible refine gate_dst (N := 1) rfl ?_); refine box_event ?hg (N := 1) ?hd (cs := #[.int .i64 a0_0, .int .i64 a0_1, .string a0_2]) (t := 29) ?hr ?_; (case hd => rfl); (case hg => rfl); (case hr => first | (go_simp; done) | (go_simp; rfl)); intro gb175 hg w3 hbox hb; have n0_ := Aside0.mk (below_step (by repeat (first | (with_reducible first | exact HB.out | apply below_alloc | apply pw_below_drewN | apply below_drew1) | exact HB.out)) hb); have n1_ := Aside0.mk (hbox); have n2_ := Aside0.mk ((by rw [hg]; exact (below_size (by repeat (first | (with_reducible first | exact HB.out | apply below_alloc | apply pw_below_drewN | apply below_drew1) | exact HB.out))) : w.heap.size ≤ gb175)); have n3_ := Aside0.mk ((by rw [hg]; exact (below_size (by repeat (first | (with_reducible first | exact HB.out | apply below_alloc | apply pw_below_drewN | apply below_drew1) | exact HB.out))) : w.heap.size ≤ gb175)); clear HB; have HB := n0_; have BK175 := n1_; have GW175 := n2_; have GE175 := n3_; clear n0_ n1_ n2_ n3_; clear hb hbox hg; have hcz4_0 : w3.cell? ⟨gb175, 0, none⟩ = some (.int .i64 a0_0) := (blk_cell BK175.out 0).trans rfl; have hcz4_1 : w3.cell? ⟨gb175, 1, none⟩ = some (.int .i64 a0_1) := (blk_cell BK175.out 1).trans rfl; have hcz4_2 : w3.cell? ⟨gb175, 2, none⟩ = some (.string a0_2) := (blk_cell BK175.out 2).trans rfl; have hfz4_0 := blk_frozen BK175.out 0; have hfz4_1 := blk_frozen BK175.out 1; have hfz4_2 := blk_frozen BK175.out 2) | ((with_reducible refine gate_callee (f := 43) rfl ?_); refine goesL_ (some 8) rfl rfl Try.func43 (by kernel_rfl) rfl #[.agg #[.int .i64 a0_0, .int .i64 a0_1, .string a0_2], .agg #[.int .i64 a0_0, .int .i64 a0_1, .string a0_2]] rfl (by (try simp only [List.map_toArray, List.map_cons, List.map_nil]); first | done | rfl | (simp only [List.length_drop, List.length_take]; rfl)) ?_; (with_reducible refine (marquetryref09_Compare.calls k a0_0 a0_1 a0_2 a0_0 a0_1 a0_2 t176 t177 _ A2.out).mono ?_); rintro e w5 ⟨rfl, hb⟩; refine ⟨_, rfl, ?_⟩; have n0_ := Aside0.mk (blk_below (g := gb175) (o := .cells #[.int .i64 a0_0, .int .i64 a0_1, .string a0_2] 29 (0, 0)) (by (with_reducible repeat (first | refine blk_drewN ?_ _ | refine blk_drew ?_ | refine blk_alloc ?_ _)); exact BK175.out) hb); have n1_ := Aside0.mk (below_step (by repeat (first | (with_reducible first | exact HB.out | apply below_alloc | apply pw_below_drewN | apply below_drew1 | refine below_set ?_ GE175.out) | exact HB.out)) hb); clear BK175; clear HB; have BK175 := n0_; have HB := n1_; clear n0_ n1_; (try clear hb); (try clear hb2); (try clear hk); (try clear hi)))
 go_ret
 exact ⟨by first | rfl | (simp [errW_none, errW_some] <;> rfl) | (simp [*, errW_none, errW_some] <;> rfl), by repeat (first | (with_reducible first | exact HB.out | apply below_alloc | apply pw_below_drewN | apply below_drew1 | refine below_set ?_ GE175.out) | exact HB.out)⟩

end Go.Proofs.Ytncehlbhjoejhaa.H
end
section
namespace Go.Proofs.Ytncehlbhjoejhaa.CmpAid
open Go.RowKit Go.Proofs.YtncehlbhjoejhaaW.PrintWords Go.Proofs.YtncehlbhjoejhaaW.PrintLast Go.Proofs.YtncehlbhjoejhaaW.PrintMore Go.Proofs.Ytncehlbhjoejhaa.H Go.Proofs.Ytncehlbhjoejhaa.DatAid
set_option linter.unusedVariables false
def sc : List UInt8 → List UInt8 → Int
 | [], [] => 0
 | [], _ :: _ => -1
 | _ :: _, [] => 1
 | x :: xs, y :: ys => if x < y then -1 else if y < x then 1 else sc xs ys
theorem strI_sc : ∀ x y : List UInt8, strI x y = sc x y
 | [], [] => rfl
 | [], _ :: _ => rfl
 | _ :: _, [] => rfl
 | x :: xs, y :: ys => by
  have ih := strI_sc xs ys
  unfold strI at ih ⊢
  simp only [Op.bytesLess, sc]
  by_cases h : x < y
  ·simp [h]
  ·by_cases h2 : y < x
   ·have hne : x ≠ y := fun e => by subst e; exact h h2
    simp [h, h2, hne]
   ·have he : x = y := by
     have h3 : ¬ x.toNat < y.toNat := h
     have h4 : ¬ y.toNat < x.toNat := h2
     exact UInt8.toNat_inj.mp (by omega)
    subst he
    simp [h, ← ih]
theorem sc_swap : ∀ x y : List UInt8, sc y x = - sc x y
 | [], [] => rfl
 | [], _ :: _ => rfl
 | _ :: _, [] => rfl
 | x :: xs, y :: ys => by
  have ih := sc_swap xs ys
  simp only [sc]
  by_cases h : x < y
  ·have h2 : ¬ y < x := fun h2 => Nat.lt_irrefl _ (Nat.lt_trans (show x.toNat < y.toNat from h) h2)
   simp [h, h2]
  ·by_cases h2 : y < x
   ·simp [h, h2]
   ·simp [h, h2, ih]
theorem sc_trans : ∀ x y z : List UInt8, (sc x y ≤ 0 → sc y z ≤ 0 → sc x z ≤ 0) ∧ (sc x y < 0 → sc y z ≤ 0 → sc x z < 0)
 | [], [], [] => by simp [sc]
 | [], [], _ :: _ => by simp [sc]
 | [], _ :: _, [] => by simp [sc]
 | [], _ :: _, _ :: _ => by simp [sc]
 | _ :: _, [], _ => by simp [sc]
 | _ :: _, _ :: _, [] => by simp [sc]
 | x :: xs, y :: ys, z :: zs => by
  have ih := sc_trans xs ys zs
  simp only [sc]
  have t : ∀ a b : UInt8, (a < b) ↔ a.toNat < b.toNat := fun a b => Iff.rfl
  by_cases h1 : x < y
  ·have n1 : ¬ y < x := by rw [t] at *; omega
   by_cases h2 : y < z
   ·have h3 : x < z := by rw [t] at *; omega
    simp [h1, h2, h3]
   ·by_cases h4 : z < y
    ·simp [h1, h2, h4]
    ·have h3 : x < z := by rw [t] at *; omega
     simp [h1, h2, h4, h3]
  ·by_cases h2 : y < x
   ·simp [h1, h2]
   ·have he : x = y := UInt8.toNat_inj.mp (by rw [t] at *; omega)
    subst he
    by_cases h3 : x < z
    ·simp [h1, h3]
    ·by_cases h4 : z < x
     ·simp [h1, h3, h4]
     ·simp [h1, h3, h4]
      exact ih
end Go.Proofs.Ytncehlbhjoejhaa.CmpAid
end
