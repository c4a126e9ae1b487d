/- Texts of the claim, packed: H17, H18. -/
import Derived.Laws.FloatArith
import Derived.Test.YtncehlbhjoejhaaZRangesParts4
import Derived.Test.YtncehlbhjoejhaaZRangesParts5
import Derived.Test.YtncehlbhjoejhaaZRangesParts6
import Derived.Test.YtncehlbhjoejhaaZRangesParts10
section
-- Laid by this session's hprint.py, out of the kit's print.py and texts of the session. Not trusted: Lean checks it.
namespace Go.Proofs.Ytncehlbhjoejhaa.H
open Go.RowKit Go.Proofs.YtncehlbhjoejhaaW.PrintWords Go.Proofs.YtncehlbhjoejhaaW.PrintLast Go.Proofs.YtncehlbhjoejhaaW.PrintMore
attribute [local go_sem] max2_int min2_int max_two min_two max_three min_three max_four min_four   -- for this text's walks alone
set_option linter.unusedVariables false
set_option linter.unusedSimpArgs false

-- OVPART Derived.Test.YtncehlbhjoejhaaFloatPlain Derived.Laws.FloatArith
/-! ### datum_Real: function 54 -/
-- CALLS marquetry/datum.fine
open Go.Proofs.YtncehlbhjoejhaaF
def u64b (i : Int) : Nat := (IntKind.u64.wrap i).toNat
def nanD (k i : Int) : Bool := if k = 4 then (Ieee.single.read i.toNat).isNaN else (Ieee.double.read (u64b i)).isNaN
def rbits (k i : Int) : Nat := if k = 4 then Ieee.double.write (Ieee.single.read i.toNat) else u64b i
def isReal (k i : Int) (t : ByteArray) : Bool := datum_fine.v k i t && (decide (k = 4) || decide (k = 5))
/-- What Real may tell. -/
def RealP (k i : Int) (t : ByteArray) (b : Nat) : Prop := (isReal k i t = false → b = 0) ∧ (isReal k i t = true → if nanD k i = true then (Ieee.double.read b).isNaN = true else b = rbits k i)
theorem fine_r4 {i : Int} {t : ByteArray} (h : datum_fine.v 4 i t = true) : 0 ≤ i ∧ i ≤ 4294967295 := by
  unfold datum_fine.v kOf at h
  simp at h
  omega
theorem r64from_run (n : Int) (w : World) : (callFunc 70 #[.int .u64 n]).run Try.prog w = .ok (.value (.float .f64 n.toNat)) w := by kernel_rfl
theorem r32from_run (n : Int) (w : World) : (callFunc 69 #[.int .u32 n]).run Try.prog w = .ok (.value (.float .f32 n.toNat)) w := by kernel_rfl
theorem widen_ok (n : Nat) (h : (Ieee.single.read n).isNaN = false) (w : World) : (convert 100 91 (.float .f32 n)).run Try.prog w = .ok (.float .f64 (Ieee.double.write (Ieee.single.read n))) w := by
  refine run_convert_float_float w _ _ .f32 .f64 n _ (by rw [Try.underlying100]; rfl) Try.underlying91 ?_
  have hd : FloatKind.f32.decode n = Ieee.single.read n := rfl
  unfold floatToFloatBits
  rw [if_neg (by decide), hd]
  cases hr : Ieee.single.read n with
  | nan s t => rw [hr] at h; simp [Ieee.Datum.isNaN] at h
  | infinity s => rfl
  | number s m e =>
    obtain ⟨hm, he, he'⟩ := read32 n s m e hr
    obtain ⟨s', m', e', hx⟩ := widen_num s m e hm he he'
    have hx' : FloatKind.f64.decode (FloatKind.f64.encode (.number s m e)) = .number s' m' e' := hx
    simp only [hx']
    rfl
theorem widen_nan (n : Nat) (h : (Ieee.single.read n).isNaN = true) (w : World) : ∃ b, (convert 100 91 (.float .f32 n)).run Try.prog w = .ok (.float .f64 b) w.drew ∧ (Ieee.double.read b).isNaN = true := by
  have hd : FloatKind.f32.decode n = Ieee.single.read n := rfl
  cases hr : Ieee.single.read n with
  | infinity s => rw [hr] at h; simp [Ieee.Datum.isNaN] at h
  | number s m e => rw [hr] at h; simp [Ieee.Datum.isNaN] at h
  | nan s t =>
    refine ⟨(Question.nanConv .f64 n).cut (w.tape w.drawn (.nanConv .f64 n)), ?_, ?_⟩
    · have h0 : (Conv.floatToFloat .f32 n .f64).run Try.prog w = .ok (.float .f64 ((Question.nanConv .f64 n).cut (w.tape w.drawn (.nanConv .f64 n)))) w.drew := by
        unfold Conv.floatToFloat
        rw [if_neg (by decide), hd, hr]
        rfl
      unfold convert
      simp only [Sem.run_bind, run_underlying Try.underlying100, run_underlying Try.underlying91, Result.andThen]
      exact h0
    · generalize w.tape w.drawn (.nanConv .f64 n) = x
      have e1 : Ieee.double.signWeight = 9223372036854775808 := by decide
      have e2 : Ieee.double.binade = 4503599627370496 := by decide
      have e3 : Ieee.double.infRung = 9218868437227405312 := by decide
      have hm : ((Question.nanConv .f64 n).cut x) % 9223372036854775808 = 9218868437227405312 + 1 + (x / 2) % (2 ^ 52 - 1) := by
        simp only [Question.cut]
        omega
      generalize (Question.nanConv .f64 n).cut x = y at *
      unfold Ieee.Format.read
      rw [e1, e2, e3, hm]
      have h1 : ¬ 9218868437227405312 + 1 + (x / 2) % (2 ^ 52 - 1) < 4503599627370496 := by omega
      have h2 : ¬ 9218868437227405312 + 1 + (x / 2) % (2 ^ 52 - 1) < 9218868437227405312 := by omega
      have h3 : ¬ 9218868437227405312 + 1 + (x / 2) % (2 ^ 52 - 1) = 9218868437227405312 := by omega
      simp only [if_neg h1, if_neg h2, if_neg h3]
      rfl
theorem real_post {k i : Int} {t : ByteArray} {b : Nat} {w w' : World} (ok : Bool) (h1 : isReal k i t = ok) (h2 : RealP k i t b) (h3 : Below w.heap.size w w') :
    (∃ b', Ending.returned (.tuple #[.float .f64 b, .bool ok]) = .returned (.tuple #[.float .f64 b', .bool (isReal k i t)]) ∧ RealP k i t b') ∧ Below w.heap.size w w' := ⟨⟨b, by rw [h1], h2⟩, h3⟩
theorem realP_no {k i : Int} {t : ByteArray} (h : isReal k i t = false) : RealP k i t 0 := ⟨fun _ => rfl, fun h' => (by rw [h] at h'; cases h')⟩
theorem realP_nan {k i : Int} {t : ByteArray} {b : Nat} (h : isReal k i t = true) (hn : nanD k i = true) (hb : (Ieee.double.read b).isNaN = true) : RealP k i t b := ⟨fun h' => (by rw [h] at h'; cases h'), fun _ => by rw [if_pos hn]; exact hb⟩
theorem realP_num {k i : Int} {t : ByteArray} {b : Nat} (h : isReal k i t = true) (hn : nanD k i = false) (hb : b = rbits k i) : RealP k i t b := ⟨fun h' => (by rw [h] at h'; cases h'), fun _ => by rw [if_neg (by rw [hn]; simp)]; exact hb⟩
theorem realP_5 {i : Int} {t : ByteArray} (h : isReal 5 i t = true) : RealP 5 i t (u64b i) := by
  cases hn : nanD 5 i with
  | true => exact realP_nan h hn hn
  | false => exact realP_num h hn rfl
set_option maxHeartbeats 2000000 in
set_option maxRecDepth 100000 in
theorem real_calls (k i : Int) (t : ByteArray) (w : World) : Calls Try.prog 54 #[.agg #[.int .i64 k, .int .i64 i, .string t]] w fun e w' => (∃ b, e = .returned (.tuple #[.float .f64 b, .bool (isReal k i t)]) ∧ RealP k i t b) ∧ Below w.heap.size w w' := by
  have h64 := r64from_run
  have h32 := r32from_run
  have hff : datum_fine.f k i t = some (datum_fine.v k i t) := rfl
  generalize hfv : datum_fine.v k i t = fv at hff
  have hR : isReal k i t = (fv && (decide (k = 4) || decide (k = 5))) := by unfold isReal; rw [hfv]
  have HR := Aside0.mk hR
  clear hR
  go_enter Try.func54, Try.ntmps54
  cases fv
  · go_wp2_with (first | ((with_reducible refine gate_callee (f := 52) rfl ?_); refine goesL_ (some 6) rfl rfl Try.func52 (by kernel_rfl) rfl #[.agg #[.int .i64 k, .int .i64 i, .string t]] rfl (by (try simp only [List.map_toArray, List.map_cons, List.map_nil]); first | done | rfl) ?_; refine (datum_fine.calls k i t _ _ hff).mono ?_; rintro e w' ⟨rfl, hb⟩; have hB2 := below_step (w := w) (by repeat (first | exact Below.refl _ _ | apply below_alloc | apply Below.drew)) hb; have hc0 : w'.cell? ⟨w.heap.size, 0, none⟩ = some (.int .i64 k) := (by rw [hb.cell (by simp [go_sem])]; simp [go_sem]); have hc1 : w'.cell? ⟨w.heap.size, 1, none⟩ = some (.int .i64 i) := (by rw [hb.cell (by simp [go_sem])]; simp [go_sem]); clear hb; refine ⟨_, rfl, ?_⟩))
    go_ret2
    exact real_post false HR.out (realP_no HR.out) hB2
  · by_cases h4 : k = 4
    · subst h4
      have HR2 := Aside0.mk (show isReal 4 i t = true by rw [HR.out]; rfl)
      have hi := fine_r4 hfv
      by_cases hn : (Ieee.single.read i.toNat).isNaN = true
      · go_wp2_with (first | ((with_reducible refine gate_callee (f := 52) rfl ?_); refine goesL_ (some 6) rfl rfl Try.func52 (by kernel_rfl) rfl #[.agg #[.int .i64 4, .int .i64 i, .string t]] rfl (by (try simp only [List.map_toArray, List.map_cons, List.map_nil]); first | done | rfl) ?_; refine (datum_fine.calls 4 i t _ _ hff).mono ?_; rintro e w' ⟨rfl, hb⟩; have hB2 := below_step (w := w) (by repeat (first | exact Below.refl _ _ | apply below_alloc | apply Below.drew)) hb; have hc0 : w'.cell? ⟨w.heap.size, 0, none⟩ = some (.int .i64 4) := (by rw [hb.cell (by simp [go_sem])]; simp [go_sem]); have hc1 : w'.cell? ⟨w.heap.size, 1, none⟩ = some (.int .i64 i) := (by rw [hb.cell (by simp [go_sem])]; simp [go_sem]); clear hb; obtain ⟨b, hwn, hbn⟩ := widen_nan i.toNat hn w';refine ⟨_, rfl, ?_⟩))
        go_ret2
        exact real_post true HR2.out (realP_nan HR2.out hn hbn) hB2.drew
      · have hw := widen_ok i.toNat (by simpa using hn)
        go_wp2_with (first | ((with_reducible refine gate_callee (f := 52) rfl ?_); refine goesL_ (some 6) rfl rfl Try.func52 (by kernel_rfl) rfl #[.agg #[.int .i64 4, .int .i64 i, .string t]] rfl (by (try simp only [List.map_toArray, List.map_cons, List.map_nil]); first | done | rfl) ?_; refine (datum_fine.calls 4 i t _ _ hff).mono ?_; rintro e w' ⟨rfl, hb⟩; have hB2 := below_step (w := w) (by repeat (first | exact Below.refl _ _ | apply below_alloc | apply Below.drew)) hb; have hc0 : w'.cell? ⟨w.heap.size, 0, none⟩ = some (.int .i64 4) := (by rw [hb.cell (by simp [go_sem])]; simp [go_sem]); have hc1 : w'.cell? ⟨w.heap.size, 1, none⟩ = some (.int .i64 i) := (by rw [hb.cell (by simp [go_sem])]; simp [go_sem]); clear hb; refine ⟨_, rfl, ?_⟩))
        go_ret2
        exact real_post true HR2.out (realP_num HR2.out (show (Ieee.single.read i.toNat).isNaN = false by simpa using hn) rfl) hB2
    · by_cases h5 : k = 5
      · subst h5
        have HR2 := Aside0.mk (show isReal 5 i t = true by rw [HR.out]; rfl)
        go_wp2_with (first | ((with_reducible refine gate_callee (f := 52) rfl ?_); refine goesL_ (some 6) rfl rfl Try.func52 (by kernel_rfl) rfl #[.agg #[.int .i64 5, .int .i64 i, .string t]] rfl (by (try simp only [List.map_toArray, List.map_cons, List.map_nil]); first | done | rfl) ?_; refine (datum_fine.calls 5 i t _ _ hff).mono ?_; rintro e w' ⟨rfl, hb⟩; have hB2 := below_step (w := w) (by repeat (first | exact Below.refl _ _ | apply below_alloc | apply Below.drew)) hb; have hc0 : w'.cell? ⟨w.heap.size, 0, none⟩ = some (.int .i64 5) := (by rw [hb.cell (by simp [go_sem])]; simp [go_sem]); have hc1 : w'.cell? ⟨w.heap.size, 1, none⟩ = some (.int .i64 i) := (by rw [hb.cell (by simp [go_sem])]; simp [go_sem]); clear hb; refine ⟨_, rfl, ?_⟩))
        go_ret2
        exact real_post true HR2.out (realP_5 HR2.out) hB2
      · have HR2 := Aside0.mk (show isReal k i t = false by rw [HR.out]; simp [h4, h5])
        go_wp2_with (first | ((with_reducible refine gate_callee (f := 52) rfl ?_); refine goesL_ (some 6) rfl rfl Try.func52 (by kernel_rfl) rfl #[.agg #[.int .i64 k, .int .i64 i, .string t]] rfl (by (try simp only [List.map_toArray, List.map_cons, List.map_nil]); first | done | rfl) ?_; refine (datum_fine.calls k i t _ _ hff).mono ?_; rintro e w' ⟨rfl, hb⟩; have hB2 := below_step (w := w) (by repeat (first | exact Below.refl _ _ | apply below_alloc | apply Below.drew)) hb; have hc0 : w'.cell? ⟨w.heap.size, 0, none⟩ = some (.int .i64 k) := (by rw [hb.cell (by simp [go_sem])]; simp [go_sem]); have hc1 : w'.cell? ⟨w.heap.size, 1, none⟩ = some (.int .i64 i) := (by rw [hb.cell (by simp [go_sem])]; simp [go_sem]); clear hb; refine ⟨_, rfl, ?_⟩))
        go_ret2
        exact real_post false HR2.out (realP_no HR2.out) hB2


end Go.Proofs.Ytncehlbhjoejhaa.H
end
section
-- Laid by this session's hprint.py, out of the kit's print.py and texts of the session. Not trusted: Lean checks it.
namespace Go.Proofs.Ytncehlbhjoejhaa.H
open Go.RowKit Go.Proofs.YtncehlbhjoejhaaW.PrintWords Go.Proofs.YtncehlbhjoejhaaW.PrintLast Go.Proofs.YtncehlbhjoejhaaW.PrintMore
attribute [local go_sem] max2_int min2_int max_two min_two max_three min_three max_four min_four   -- for this text's walks alone
set_option linter.unusedVariables false
set_option linter.unusedSimpArgs false

-- OVPART 
/-! ### datum_Nan: function 34 -/
-- CALLS marquetry/datum.Real
def datum_Nan.f (a0_0 a0_1 : Int) (a0_2 : ByteArray) : Option Bool := some (isReal a0_0 a0_1 a0_2 && nanD a0_0 a0_1)
open Go.Proofs.YtncehlbhjoejhaaF
theorem order_self (b : Nat) : (FloatKind.f64.format.order b b != some Ordering.eq) = (Ieee.double.read b).isNaN := by
  have e : FloatKind.f64.format.order b b = (Ieee.double.read b).order (Ieee.double.read b) := rfl
  rw [e]
  cases hr : Ieee.double.read b with
  | nan s t => rfl
  | infinity s => rw [order_refl _ (by rintro ⟨s, t, h⟩; cases h)]; rfl
  | number s m e => rw [order_refl _ (by rintro ⟨s, t, h⟩; cases h)]; rfl
theorem rbits_num (k i : Int) (hn : nanD k i = false) : (Ieee.double.read (rbits k i)).isNaN = false := by
  unfold nanD at hn
  unfold rbits
  split
  · rename_i h4
    rw [if_pos h4] at hn
    cases hr : Ieee.single.read i.toNat with
    | nan s t => rw [hr] at hn; cases hn
    | infinity s => rw [widen_inf]; rfl
    | number s m e =>
      obtain ⟨hm, he, he'⟩ := read32 _ s m e hr
      obtain ⟨s', m', e', hx⟩ := widen_num s m e hm he he'
      rw [hx]; rfl
  · rename_i h4
    rw [if_neg h4] at hn
    exact hn
theorem real_nan {k i : Int} {t : ByteArray} {b : Nat} (h : isReal k i t = true) (hP : RealP k i t b) : (FloatKind.f64.format.order b b != some Ordering.eq) = nanD k i := by
  rw [order_self]
  have h2 := hP.2 h
  cases hn : nanD k i with
  | true => rw [hn, if_pos rfl] at h2; exact h2
  | false =>
    rw [hn, if_neg (by simp)] at h2
    rw [h2]
    exact rbits_num k i hn
set_option maxHeartbeats 2000000 in
set_option maxRecDepth 100000 in
theorem datum_Nan.calls (a0_0 : Int) (a0_1 : Int) (a0_2 : ByteArray) (r : Bool) (w : World) (h : datum_Nan.f a0_0 a0_1 a0_2 = some r) :
    Calls Try.prog 34 #[.agg #[.int .i64 a0_0, .int .i64 a0_1, .string a0_2]] w fun e w' => e = .returned (.bool r) ∧ Below w.heap.size w w' := by
  unfold datum_Nan.f at h
  obtain rfl := Option.some.inj h
  clear h
  go_enter Try.func34, Try.ntmps34
  go_wp2_with (first | ((with_reducible refine gate_callee (f := 54) rfl ?_); (try (refine gate_guard (by rfl) ?_; dsimp only)); refine goesL_ _ rfl rfl Try.func54 (by kernel_rfl) rfl #[.agg #[.int .i64 a0_0, .int .i64 a0_1, .string a0_2]] rfl (by (try simp only [List.map_toArray, List.map_cons, List.map_nil]); first | done | rfl) ?_; refine (real_calls a0_0 a0_1 a0_2 _).mono ?_; rintro e w' ⟨⟨b, rfl, hP⟩, hb⟩; have hB2 := below_step (w := w) (by repeat (first | exact Below.refl _ _ | apply below_alloc | apply Below.drew)) hb; clear hb; refine ⟨_, rfl, ?_⟩))
  · go_ret
    rename_i hr
    exact ⟨by rw [hr, Bool.true_and, ← real_nan hr hP]; rfl, hB2⟩
  · go_ret
    rename_i hr
    rw [Bool.not_eq_true] at hr
    exact ⟨by rw [hr]; rfl, hB2⟩


end Go.Proofs.Ytncehlbhjoejhaa.H
end
