/- Texts of the claim, packed: RngOrd, RngSnd, RngOf, RngPts. -/
import Derived.Test.YtncehlbhjoejhaaZRangesParts4
import Derived.Test.YtncehlbhjoejhaaZRangesParts5
import Derived.Test.YtncehlbhjoejhaaZRangesParts6
import Derived.Test.YtncehlbhjoejhaaZRangesParts9
import Derived.Test.YtncehlbhjoejhaaZRangesParts10
import Derived.Test.YtncehlbhjoejhaaZRangesParts12
import Derived.Test.YtncehlbhjoejhaaZRangesParts14
import Derived.Test.YtncehlbhjoejhaaZRangesParts15
import Derived.Test.YtncehlbhjoejhaaZRangesParts16
import Derived.Test.YtncehlbhjoejhaaZRangesParts17
import Derived.Test.YtncehlbhjoejhaaZRangesParts18
import Derived.Test.YtncehlbhjoejhaaZRangesParts22
import Derived.Test.YtncehlbhjoejhaaZRangesParts23
import Derived.Test.YtncehlbhjoejhaaZRangesParts25
section
namespace Go.Proofs.Ytncehlbhjoejhaa.RngOrd
open Go.RowKit Go.Proofs.YtncehlbhjoejhaaW.PrintWords Go.Proofs.YtncehlbhjoejhaaW.PrintLast Go.Proofs.YtncehlbhjoejhaaW.PrintMore Go.Proofs.Ytncehlbhjoejhaa.H Go.Proofs.Ytncehlbhjoejhaa.DatAid Go.Proofs.Ytncehlbhjoejhaa.RngAid Go.Proofs.Ytncehlbhjoejhaa.CmpAid Go.Proofs.YtncehlbhjoejhaaF
set_option linter.unusedVariables false
set_option linter.unusedSimpArgs false
theorem int_f (a b : Int) : datum_order_int64.f a b = some (if a < b then -1 else if a > b then 1 else 0, true) := by
  unfold datum_order_int64.f cmp_Compare_int64.f cmp_isNaN_int64.f
  have h1 : (a != a) = false := by simp
  have h2 : (b != b) = false := by simp
  simp only [h1, h2]
  by_cases h : a < b
  · simp [h]
  · by_cases h' : a > b
    · simp [h, h']
    · simp [h, h']
def okD (k i : Int) (t : ByteArray) : Bool := datum_fine.v k i t && !(isReal k i t && nanD k i)
def kc (k i1 : Int) (t1 : ByteArray) (i2 : Int) (t2 : ByteArray) : Int :=
  if k = 4 ∨ k = 5 then fcmpI (rbits k i1) (rbits k i2) else if k = 6 ∨ k = 7 then sc t1.toList t2.toList else if i1 < i2 then -1 else if i1 > i2 then 1 else 0
def cv (k1 i1 : Int) (t1 : ByteArray) (k2 i2 : Int) (t2 : ByteArray) : Int × Bool := if okD k1 i1 t1 = true ∧ okD k2 i2 t2 = true ∧ k1 = k2 then (kc k1 i1 t1 i2 t2, true) else (0, false)
theorem cmp_f (k1 i1 : Int) (t1 : ByteArray) (k2 i2 : Int) (t2 : ByteArray) : datum_Compare.f k1 i1 t1 k2 i2 t2 = some (cv k1 i1 t1 k2 i2 t2) := by
  unfold datum_Compare.f cv okD kc
  rw [int_f]
  cases datum_fine.v k1 i1 t1 <;> cases datum_fine.v k2 i2 t2 <;> cases (isReal k1 i1 t1 && nanD k1 i1) <;> cases (isReal k2 i2 t2 && nanD k2 i2) <;> by_cases hk : k1 = k2 <;> simp [hk]
  subst hk
  by_cases h45 : k1 = 4 ∨ k1 = 5
  · simp [h45]
  · rw [if_neg h45, if_neg h45]
    by_cases h67 : k1 = 6 ∨ k1 = 7
    · rw [if_pos h67, if_pos h67, ← strI_sc]; rfl
    · rw [if_neg h67, if_neg h67]
theorem okD_num {k i : Int} {t : ByteArray} (h : okD k i t = true) (h45 : k = 4 ∨ k = 5) : (Ieee.double.read (rbits k i)).isNaN = false := by
  unfold okD at h
  rw [Bool.and_eq_true] at h
  have hr : isReal k i t = true := by unfold isReal; rw [h.1]; simpa using h45
  rw [hr] at h
  exact rbits_num k i (by simpa using h.2)
theorem fI_le {x y : Nat} (hx : (Ieee.double.read x).isNaN = false) (hy : (Ieee.double.read y).isNaN = false) : (fcmpI x y ≤ 0 ↔ FloatKind.f64.format.order x y ≠ some .gt) ∧ (fcmpI x y < 0 ↔ FloatKind.f64.format.order x y = some .lt) ∧ -1 ≤ fcmpI x y ∧ fcmpI x y ≤ 1 := by
  obtain ⟨o, ho⟩ := order_num hx hy
  unfold fcmpI
  rw [ho]
  cases o <;> simp [ordInt]
theorem fI_swap {x y : Nat} (hx : (Ieee.double.read x).isNaN = false) (hy : (Ieee.double.read y).isNaN = false) : fcmpI y x = - fcmpI x y := by
  have h : FloatKind.f64.format.order y x = (FloatKind.f64.format.order x y).map Ordering.swap := order_swap _ _ (nanIs hx) (nanIs hy)
  obtain ⟨o, ho⟩ := order_num hx hy
  unfold fcmpI
  rw [h, ho]
  cases o <;> rfl
theorem kc_swap {k i1 i2 : Int} {t1 t2 : ByteArray} (h1 : okD k i1 t1 = true) (h2 : okD k i2 t2 = true) : kc k i1 t1 i2 t2 = - kc k i2 t2 i1 t1 := by
  unfold kc
  by_cases h45 : k = 4 ∨ k = 5
  · rw [if_pos h45, if_pos h45]; exact fI_swap (okD_num h2 h45) (okD_num h1 h45)
  · rw [if_neg h45, if_neg h45]
    by_cases h67 : k = 6 ∨ k = 7
    · rw [if_pos h67, if_pos h67]; exact sc_swap _ _
    · rw [if_neg h67, if_neg h67]
      by_cases a : i1 < i2
      · rw [if_pos a, if_neg (by omega), if_pos a]
      · by_cases b : i2 < i1
        · rw [if_neg a, if_pos b, if_pos b]; rfl
        · rw [if_neg a, if_neg b, if_neg b, if_neg a]; rfl
theorem kc_refl {k i : Int} {t : ByteArray} (h : okD k i t = true) : kc k i t i t = 0 := by
  have := kc_swap h h
  omega
theorem kc_trans {k i1 i2 i3 : Int} {t1 t2 t3 : ByteArray} (h1 : okD k i1 t1 = true) (h2 : okD k i2 t2 = true) (h3 : okD k i3 t3 = true) :
    (kc k i1 t1 i2 t2 ≤ 0 → kc k i2 t2 i3 t3 ≤ 0 → kc k i1 t1 i3 t3 ≤ 0) ∧ (kc k i1 t1 i2 t2 < 0 → kc k i2 t2 i3 t3 ≤ 0 → kc k i1 t1 i3 t3 < 0) := by
  unfold kc
  by_cases h45 : k = 4 ∨ k = 5
  · simp only [if_pos h45]
    have n1 := okD_num h1 h45
    have n2 := okD_num h2 h45
    have n3 := okD_num h3 h45
    rw [(fI_le n1 n2).1, (fI_le n2 n3).1, (fI_le n1 n3).1, (fI_le n1 n2).2.1, (fI_le n1 n3).2.1]
    exact ⟨fun a b => order_le_trans _ _ _ (nanIs n1) (nanIs n2) (nanIs n3) a b, fun a b => order_lt_trans _ _ _ (nanIs n1) (nanIs n2) (nanIs n3) a b⟩
  · simp only [if_neg h45]
    by_cases h67 : k = 6 ∨ k = 7
    · simp only [if_pos h67]; exact sc_trans _ _ _
    · simp only [if_neg h67]
      refine ⟨fun a b => ?_, fun a b => ?_⟩
      · by_cases p : i1 < i3
        · rw [if_pos p]; omega
        · by_cases q : i1 > i3
          · exfalso
            by_cases u : i1 > i2
            · rw [if_neg (by omega), if_pos u] at a; omega
            · by_cases v : i2 > i3
              · rw [if_neg (by omega), if_pos v] at b; omega
              · omega
          · rw [if_neg p, if_neg q]; omega
      · have e : i1 < i2 := by
          by_cases u : i1 < i2
          · exact u
          · rw [if_neg u] at a
            split at a <;> omega
        have e2 : ¬ i2 > i3 := by
          intro v
          rw [if_neg (by omega), if_pos v] at b
          omega
        rw [if_pos (by omega)]; omega
theorem wrap_next (i : Nat) (h : i < 1000000000000000) : wrap64 ((i : Int) + 1) = ((i + 1 : Nat) : Int) := by
  unfold wrap64
  omega
theorem toList_len (a : ByteArray) : a.toList.length = a.size := by rw [Lib.toList_data, data_length]
theorem bt_get (a : ByteArray) (i : Nat) (h : i < a.size) (h' : i < a.toList.length) : bt a (i : Int) = ((a.toList[i]).toNat : Int) := by
  unfold bt
  rw [dif_pos (show ((i : Int)).toNat < a.size by omega)]
  simp only [Lib.toList_data]
  rfl
theorem texts_loop (a b : ByteArray) (ha : a.size ≤ 140737488351232) : ∀ d i K : Nat, a.size = i + d → i ≤ b.size → 2 * d + 2 < K → marquetryref09_Texts.l0 K a b (i : Int) = some (sc (a.toList.drop i) (b.toList.drop i)) := by
  intro d
  induction d with
  | zero =>
    intro i K hi hb hK
    obtain ⟨K', rfl⟩ : ∃ K', K = K' + 2 := ⟨K - 2, by omega⟩
    simp only [marquetryref09_Texts.l0, marquetryref09_Texts.j1]
    rw [if_neg (by omega : ¬ (i : Int) < (a.size : Int)), if_neg (by decide)]
    have e1 : a.toList.drop i = [] := List.drop_eq_nil_of_le (by rw [toList_len]; omega)
    rw [e1]
    by_cases h : i < b.size
    · rw [if_pos (by omega), List.drop_eq_getElem_cons (by rw [toList_len]; exact h)]
      rfl
    · rw [if_neg (by omega), if_neg (by omega), List.drop_eq_nil_of_le (by rw [toList_len]; omega)]
      rfl
  | succ d ih =>
    intro i K hi hb hK
    obtain ⟨K', rfl⟩ : ∃ K', K = K' + 2 := ⟨K - 2, by omega⟩
    have hia : i < a.toList.length := by rw [toList_len]; omega
    simp only [marquetryref09_Texts.l0, marquetryref09_Texts.j1]
    rw [if_pos (by omega : (i : Int) < (a.size : Int)), List.drop_eq_getElem_cons hia]
    by_cases h : i < b.size
    · have hib : i < b.toList.length := by rw [toList_len]; exact h
      rw [decide_eq_true (by omega : (i : Int) < (b.size : Int)), if_pos rfl, if_pos (by omega : 0 ≤ (i : Int)), if_pos (by omega : (i : Int) < (a.size : Int)), if_pos (by omega : (i : Int) < (b.size : Int)), wrap_next i (by omega), ih (i + 1) K' (by omega) (by omega) (by omega), List.drop_eq_getElem_cons hib, bt_get a i (by omega) hia, bt_get b i h hib]
      simp only [sc]
      have t : ∀ x y : UInt8, (x < y) ↔ x.toNat < y.toNat := fun x y => Iff.rfl
      by_cases h1 : (a.toList[i]).toNat < (b.toList[i]).toNat
      · rw [if_pos (by omega), if_pos ((t _ _).2 h1)]
      · rw [if_neg (by omega), if_neg (fun h => h1 ((t _ _).1 h))]
        by_cases h2 : (b.toList[i]).toNat < (a.toList[i]).toNat
        · rw [if_pos (by omega), if_pos ((t _ _).2 h2)]
        · rw [if_neg (by omega), if_neg (fun h => h2 ((t _ _).1 h))]
    · rw [decide_eq_false (by omega : ¬ (i : Int) < (b.size : Int)), if_neg (by decide), if_neg (by omega), if_pos (by omega), List.drop_eq_nil_of_le (by rw [toList_len]; omega : b.toList.length ≤ i)]
      rfl
theorem texts (a b : ByteArray) (ha : a.size ≤ 140737488351232) : marquetryref09_Texts.f (2 * a.size + 3) a b = some (strI a.toList b.toList) := by
  rw [strI_sc]
  exact texts_loop a b ha a.size 0 _ (by omega) (by omega) (by omega)
/-- The datum of bytes. -/
def readV (t0 t1 : Int) (s : ByteArray) : Int × Int × ByteArray × Int :=
  if datum_Check.v t0 t1 ≠ 0 then (0, 0, ⟨#[]⟩, 2)
  else if wideI t0 = 0 then (if ofB t0 t1 ⟨t0, 0, s⟩ = true then (t0, 0, s, 0) else (0, 0, ⟨#[]⟩, 320))
  else if wideI t0 ≠ (s.size : Int) then (0, 0, ⟨#[]⟩, 320)
  else if ofB t0 t1 ⟨t0, readI t0 s, ⟨#[]⟩⟩ = true then (t0, readI t0 s, ⟨#[]⟩, 0) else (0, 0, ⟨#[]⟩, 320)
theorem read_f (t0 t1 : Int) (s : ByteArray) (hs : s.size ≤ 140737488351232) : ranges_Read.f t0 t1 s = some (readV t0 t1 s) := by
  unfold ranges_Read.f readV
  rw [if_pos hs]
  repeat' split
  all_goals first | rfl | contradiction
theorem readV_ok {t0 t1 : Int} {s : ByteArray} (h : (readV t0 t1 s).2.2.2 = 0) : (readV t0 t1 s).1 = t0 ∧ ofB t0 t1 ⟨t0, (readV t0 t1 s).2.1, (readV t0 t1 s).2.2.1⟩ = true := by
  unfold readV at h ⊢
  repeat' split
  all_goals first | exact ⟨rfl, by assumption⟩ | (exfalso; simp_all; done)
/-- Whether the ends are what they may be. -/
def endsV (t0 t1 : Int) (least most : ByteArray) : Bool :=
  decide ((readV t0 t1 least).2.2.2 = 0) && (decide ((readV t0 t1 most).2.2.2 = 0) && ((cv t0 (readV t0 t1 least).2.1 (readV t0 t1 least).2.2.1 t0 (readV t0 t1 most).2.1 (readV t0 t1 most).2.2.1).2 && (decide ((cv t0 (readV t0 t1 least).2.1 (readV t0 t1 least).2.2.1 t0 (readV t0 t1 most).2.1 (readV t0 t1 most).2.2.1).1 ≤ 0) && (decide (zI (signOf t0) true (readV t0 t1 least).2.1 = (readV t0 t1 least).2.1) && decide (zI (signOf t0) false (readV t0 t1 most).2.1 = (readV t0 t1 most).2.1)))))
theorem ends_f (t0 t1 n : Int) (has : Bool) (least most : ByteArray) (hl : least.size ≤ 140737488351232) (hm : most.size ≤ 140737488351232) :
    ranges_ends.f t0 t1 n has least most = some ((readV t0 t1 least).1, (readV t0 t1 least).2.1, (readV t0 t1 least).2.2.1, (readV t0 t1 most).1, (readV t0 t1 most).2.1, (readV t0 t1 most).2.2.1, endsV t0 t1 least most) := by
  unfold ranges_ends.f endsV
  rw [read_f _ _ _ hl, read_f _ _ _ hm]
  simp only [Option.bind_some]
  by_cases h1 : (readV t0 t1 least).2.2.2 = 0
  · by_cases h2 : (readV t0 t1 most).2.2.2 = 0
    · rw [if_neg (by rw [h1, h2]; simp), cmp_f]
      simp only [Option.bind_some]
      rw [(readV_ok h1).1, (readV_ok h2).1]
      simp only [h1, h2, decide_true, Bool.true_and, Bool.and_assoc]
    · rw [if_pos (.inr h2)]
      simp [h2]
  · rw [if_pos (.inl h1)]
    simp [h1]
/-- What the check tells. -/
def checkV (t0 t1 n : Int) (has : Bool) (least most : ByteArray) : Int :=
  if datum_Check.v t0 t1 ≠ 0 then 2
  else if n < 0 ∨ n > 65536 then 320
  else if has = true then (if endsV t0 t1 least most = true then 0 else 320)
  else if least.toList = [] ∧ most.toList = [] then 0 else 320
theorem check_f (t0 t1 n : Int) (has : Bool) (least most : ByteArray) (hl : least.size ≤ 140737488351232) (hm : most.size ≤ 140737488351232) :
    ranges_Check.f t0 t1 n has least most = some (checkV t0 t1 n has least most) := by
  unfold ranges_Check.f checkV
  have e1 : datum_Check.f t0 t1 = some (datum_Check.v t0 t1) := rfl
  rw [e1, ends_f _ _ _ _ _ _ hl hm]
  simp only [Option.bind_some]
  by_cases hc : datum_Check.v t0 t1 = 0
  · rw [if_pos hc, if_neg (not_not_intro hc)]
    cases has with
    | true =>
      simp only [if_true]
      by_cases he : endsV t0 t1 least most = true
      · rw [if_pos he, if_pos he]
        by_cases h0 : n < 0
        · rw [if_pos h0, if_pos (.inl h0)]
        · by_cases h6 : n > 65536
          · rw [if_neg h0, if_pos h6, if_pos (.inr h6)]
          · rw [if_neg h0, if_neg h6, if_neg (by omega)]
      · rw [if_neg he, if_neg he]
        split <;> rfl
    | false =>
      have h2 : ((!false && (least.toList == ([] : List UInt8) && (most.toList == ([] : List UInt8)))) = true) ↔ (least.toList = [] ∧ most.toList = []) := by simp
      have hf : ¬ (false = true) := by decide
      rw [if_neg hf, if_neg hf]
      by_cases he : least.toList = [] ∧ most.toList = []
      · rw [if_pos (h2.2 he), if_pos he]
        by_cases h0 : n < 0
        · rw [if_pos h0, if_pos (.inl h0)]
        · by_cases h6 : n > 65536
          · rw [if_neg h0, if_pos h6, if_pos (.inr h6)]
          · rw [if_neg h0, if_neg h6, if_neg (by omega)]
      · rw [if_neg (fun h => he (h2.1 h)), if_neg he]
        split <;> rfl
  · rw [if_neg hc, if_pos hc]
theorem okD_nan {t0 t1 k i : Int} {t : ByteArray} (h : ofB t0 t1 ⟨k, i, t⟩ = true) : k = t0 ∧ (okD k i t = false ↔ nanV ⟨k, i, t⟩ = true) := by
  have e := of_val t0 t1 ⟨k, i, t⟩
  rw [h] at e
  have hk : k = t0 ∧ datum_fine.v k i t = true := by
    unfold datum_Of.f at e
    cases hf : datum_fine.v k i t with
    | true =>
      refine ⟨?_, rfl⟩
      by_cases hk : k = t0
      · exact hk
      · exfalso
        have e2 : datum_fine.f k i t = some true := congrArg some hf
        have e1 : datum_Check.f t0 t1 = some (datum_Check.v t0 t1) := rfl
        rw [e1, e2] at e
        simp [hk] at e
    | false =>
      have e2 : datum_fine.f k i t = some false := congrArg some hf
      have e1 : datum_Check.f t0 t1 = some (datum_Check.v t0 t1) := rfl
      rw [e1, e2] at e
      simp at e
  refine ⟨hk.1, ?_⟩
  unfold okD nanV
  rw [hk.2, Bool.true_and]
  simp
end Go.Proofs.Ytncehlbhjoejhaa.RngOrd
end
section
namespace Go.Proofs.Ytncehlbhjoejhaa.RngSnd
open Go.RowKit Go.Proofs.YtncehlbhjoejhaaW.PrintWords Go.Proofs.YtncehlbhjoejhaaW.PrintLast Go.Proofs.YtncehlbhjoejhaaW.PrintMore Go.Proofs.Ytncehlbhjoejhaa.H Go.Proofs.Ytncehlbhjoejhaa.DatAid Go.Proofs.Ytncehlbhjoejhaa.RngAid Go.Proofs.Ytncehlbhjoejhaa.CmpAid Go.Proofs.Ytncehlbhjoejhaa.RngOrd Go.Proofs.YtncehlbhjoejhaaF
set_option linter.unusedVariables false
set_option linter.unusedSimpArgs false
theorem ofB_iff (t0 t1 k i : Int) (t : ByteArray) : ofB t0 t1 ⟨k, i, t⟩ = true ↔ (datum_Check.v t0 t1 = 0 ∧ datum_fine.v k i t = true ∧ k = t0 ∧ (t0 = 7 → (t.size : Int) = t1)) := by
  have e := of_val t0 t1 ⟨k, i, t⟩
  unfold datum_Of.f at e
  have e1 : datum_Check.f t0 t1 = some (datum_Check.v t0 t1) := rfl
  have e2 : datum_fine.f k i t = some (datum_fine.v k i t) := rfl
  rw [e1, e2] at e
  simp only [Option.bind_some] at e
  by_cases hc : datum_Check.v t0 t1 = 0
  · rw [if_pos hc] at e
    cases hf : datum_fine.v k i t with
    | false => rw [hf, if_neg (by decide)] at e; have e3 := Option.some.inj e; rw [← e3]; simp
    | true =>
      rw [hf, if_pos rfl] at e
      by_cases hk : k = t0
      · rw [if_pos hk] at e
        by_cases h7 : t0 = 7
        · rw [if_pos h7] at e
          have e3 := Option.some.inj e
          rw [← e3]
          have hc' := hc
          rw [h7] at hc'
          simp [hc, hc', hk, h7]
        · rw [if_neg h7] at e
          have e3 := Option.some.inj e
          rw [← e3]
          simp [hc, hk, h7]
      · rw [if_neg hk] at e
        have e3 := Option.some.inj e
        rw [← e3]
        simp [hk]
  · rw [if_neg hc] at e
    have e3 := Option.some.inj e
    rw [← e3]
    simp [hc]
theorem fine_range {k i : Int} {t : ByteArray} (h : datum_fine.v k i t = true) :
    (k = 0 → 0 ≤ i ∧ i ≤ 1) ∧ (k = 1 → -2147483648 ≤ i ∧ i ≤ 2147483647) ∧ (k = 2 ∨ k = 5 → -9223372036854775808 ≤ i ∧ i ≤ 9223372036854775807) ∧ (k = 4 → 0 ≤ i ∧ i ≤ 4294967295) ∧ (k = 6 ∨ k = 7 → i = 0) ∧ (k ≠ 6 → k ≠ 7 → t.toList = []) := by
  have hk := fine_kind h
  unfold datum_fine.v at h
  rcases hk with rfl | rfl | rfl | rfl | rfl | rfl | rfl
  all_goals
    simp [kOf] at h ⊢
    try omega
  all_goals first | exact ⟨by omega, h.2.2.1⟩ | (refine ⟨?_, ?_⟩ <;> omega) | omega | skip
theorem nil_eq {t : ByteArray} (h : t.toList = []) : t = ⟨#[]⟩ := by
  have hs := size_nil h
  apply ByteArray.ext
  apply Array.eq_empty_of_size_eq_zero
  exact hs
theorem bt_str (l : List Int) (h : ∀ x ∈ l, 0 ≤ x ∧ x ≤ 255) (j : Nat) (hj : j < l.length) : bt (strOfNums l) (j : Int) = l[j] := by
  unfold bt
  rw [dif_pos (by rw [str_size]; simpa using hj)]
  have hb := h l[j] (List.getElem_mem hj)
  simp only [strOfNums, Int.toNat_natCast]
  show ((((l.map fun n => UInt8.ofNat n.toNat).toArray)[j]'(by simpa using hj)).toNat : Int) = l[j]
  simp
  omega
theorem leB_get (n : Nat) (i : Int) (j : Nat) (hj : j < n) (hn : n ≤ 8) : bt (strOfNums (leB n i)) (j : Int) = i / 2 ^ (8 * j) % 256 := by
  rw [bt_str _ _ j (by rw [leB_len]; exact hj)]
  · unfold leB
    simp only [List.getElem_map, List.getElem_range]
    rw [shr_at _ _ (by omega)]
  · intro x hx
    unfold leB at hx
    obtain ⟨j, _, rfl⟩ := List.mem_map.mp hx
    omega
theorem V_leB (n : Nat) (i : Int) (hn : n ≤ 8) (k : Nat) (hk : k ≤ n) : V (strOfNums (leB n i)) k = i % 256 ^ k := by
  induction k with
  | zero =>
    show (0 : Int) = i % 1
    omega
  | succ k ih =>
    have e : V (strOfNums (leB n i)) (k + 1) = V (strOfNums (leB n i)) k + bt (strOfNums (leB n i)) k * 256 ^ k := rfl
    rw [e, ih (by omega), leB_get n i k (by omega) hn]
    rcases (show k = 0 ∨ k = 1 ∨ k = 2 ∨ k = 3 ∨ k = 4 ∨ k = 5 ∨ k = 6 ∨ k = 7 by omega) with rfl | rfl | rfl | rfl | rfl | rfl | rfl | rfl <;> simp only [Int.reducePow, Nat.reduceMul, Nat.reduceAdd] <;> omega
theorem leB_size (n : Nat) (i : Int) : (strOfNums (leB n i)).size = n := by rw [str_size, leB_len]
/-- What was laid is read again. -/
theorem read_lay {t0 t1 i : Int} {t : ByteArray} (h : ofB t0 t1 ⟨t0, i, t⟩ = true) : readV t0 t1 (layV t0 i t) = (t0, i, t, 0) := by
  obtain ⟨hc, hf, _, h7⟩ := (ofB_iff _ _ _ _ _).1 h
  have hr := fine_range hf
  unfold readV
  rw [if_neg (not_not_intro hc)]
  have num : ∀ n : Nat, n ≤ 8 → wideI t0 = (n : Int) → n ≠ 0 → layV t0 i t = strOfNums (leB n i) → t0 ≠ 6 → t0 ≠ 7 → iV t0 (strOfNums (leB n i)) = i → (t0 = 0 ∨ t0 = 1 ∨ t0 = 2 ∨ t0 = 4 ∨ t0 = 5) → (if wideI t0 = 0 then (if ofB t0 t1 ⟨t0, 0, layV t0 i t⟩ = true then (t0, 0, layV t0 i t, 0) else (0, 0, ⟨#[]⟩, 320)) else if wideI t0 ≠ ((layV t0 i t).size : Int) then (0, 0, ⟨#[]⟩, 320) else if ofB t0 t1 ⟨t0, readI t0 (layV t0 i t), ⟨#[]⟩⟩ = true then (t0, readI t0 (layV t0 i t), ⟨#[]⟩, 0) else (0, 0, ⟨#[]⟩, 320)) = (t0, i, t, (0 : Int)) := by
    intro n hn hw hn0 hl h6 h7' hi hk
    have ht := nil_eq (hr.2.2.2.2.2 h6 h7')
    rw [hl, if_neg (by rw [hw]; omega), leB_size, if_neg (not_not_intro hw)]
    rw [← iV_read t0 _ hk (by rw [leB_size]; exact hw), hi]
    subst ht
    rw [if_pos h]
  rcases fine_kind hf with rfl | rfl | rfl | rfl | rfl | rfl | rfl
  · refine num 1 (by decide) rfl (by decide) ?_ (by decide) (by decide) ?_ (.inl rfl)
    · unfold layV; rw [if_pos hf]; rfl
    · unfold iV
      rw [leB_size, nI_V _ 1 (by decide), V_leB 1 i (by decide) 1 (by decide)]
      have := hr.1 rfl
      simp
      omega
  · refine num 4 (by decide) rfl (by decide) ?_ (by decide) (by decide) ?_ (.inr (.inl rfl))
    · unfold layV; rw [if_pos hf]; rfl
    · unfold iV
      rw [leB_size, nI_V _ 4 (by decide), V_leB 4 i (by decide) 4 (by decide)]
      have := hr.2.1 rfl
      simp
      unfold wrap64
      split <;> omega
  · refine num 8 (by decide) rfl (by decide) ?_ (by decide) (by decide) ?_ (.inr (.inr (.inl rfl)))
    · unfold layV; rw [if_pos hf]; rfl
    · unfold iV
      rw [leB_size, nI_8, V_leB 8 i (by decide) 8 (by decide)]
      have := hr.2.2.1 (.inl rfl)
      simp
      unfold wrap64
      omega
  · refine num 4 (by decide) rfl (by decide) ?_ (by decide) (by decide) ?_ (.inr (.inr (.inr (.inl rfl))))
    · unfold layV; rw [if_pos hf]; rfl
    · unfold iV
      rw [leB_size, nI_V _ 4 (by decide), V_leB 4 i (by decide) 4 (by decide)]
      have := hr.2.2.2.1 rfl
      simp
      omega
  · refine num 8 (by decide) rfl (by decide) ?_ (by decide) (by decide) ?_ (.inr (.inr (.inr (.inr rfl))))
    · unfold layV; rw [if_pos hf]; rfl
    · unfold iV
      rw [leB_size, nI_8, V_leB 8 i (by decide) 8 (by decide)]
      have := hr.2.2.1 (.inr rfl)
      simp
      unfold wrap64
      omega
  · have hi := hr.2.2.2.2.1 (.inl rfl)
    have hl : layV 6 i t = t := by unfold layV; rw [if_pos hf]; rfl
    subst hi
    rw [hl, if_pos (show wideI 6 = 0 from rfl), if_pos h]
  · have hi := hr.2.2.2.2.1 (.inr rfl)
    have hl : layV 7 i t = t := by unfold layV; rw [if_pos hf]; rfl
    subst hi
    rw [hl, if_pos (show wideI 7 = 0 from rfl), if_pos h]
theorem lay_small (k i : Int) (t : ByteArray) : (layV k i t).size ≤ 1048576 := by
  unfold layV
  split
  · rename_i hf
    have ht : t.size ≤ 1048576 := by
      unfold datum_fine.v at hf
      split at hf
      · cases hf
      · simp at hf
        omega
    repeat' split
    all_goals first | (rw [leB_size]; omega) | exact ht
  · exact Nat.zero_le _
/-! ### The zeros -/
theorem z4a : fcmpI (rbits 4 0) (rbits 4 2147483648) = 0 := by decide +kernel
theorem z4b : fcmpI (rbits 4 2147483648) (rbits 4 0) = 0 := by decide +kernel
theorem z5a : fcmpI (rbits 5 0) (rbits 5 (-9223372036854775808)) = 0 := by decide +kernel
theorem z5b : fcmpI (rbits 5 (-9223372036854775808)) (rbits 5 0) = 0 := by decide +kernel
theorem zI_cases (k i : Int) (m : Bool) : zI (signOf k) m i = i ∨ (k = 4 ∧ (i = 0 ∨ i = 2147483648) ∧ (zI (signOf k) m i = 0 ∨ zI (signOf k) m i = 2147483648)) ∨ (k = 5 ∧ (i = 0 ∨ i = -9223372036854775808) ∧ (zI (signOf k) m i = 0 ∨ zI (signOf k) m i = -9223372036854775808)) := by
  unfold zI
  split
  · rename_i h
    unfold signOf at h ⊢
    by_cases h4 : k = 4
    · subst h4
      refine .inr (.inl ⟨rfl, by simpa using h.2, ?_⟩)
      cases m <;> simp
    · by_cases h5 : k = 5
      · subst h5
        refine .inr (.inr ⟨rfl, by simpa using h.2, ?_⟩)
        cases m <;> simp
      · rw [if_neg h4, if_neg h5] at h
        exact absurd rfl h.1
  · exact .inl rfl
theorem zI_idem (s : Int) (m : Bool) (i : Int) : zI s m (zI s m i) = zI s m i := by
  unfold zI
  by_cases h : s ≠ 0 ∧ (i = 0 ∨ i = s)
  · rw [if_pos h]
    cases m
    · rw [if_pos ⟨h.1, .inl rfl⟩]
    · rw [if_pos ⟨h.1, .inr rfl⟩]
  · rw [if_neg h, if_neg h]
theorem nan4 : nanD 4 0 = false ∧ nanD 4 2147483648 = false := by decide +kernel
theorem nan5 : nanD 5 0 = false ∧ nanD 5 (-9223372036854775808) = false := by decide +kernel
theorem fine_z {k i j : Int} {t : ByteArray} (h : datum_fine.v k i t = true) (hj : (k = 4 ∧ (j = 0 ∨ j = 2147483648)) ∨ (k = 5 ∧ (j = 0 ∨ j = -9223372036854775808))) : datum_fine.v k j t = true := by
  have ht : t.toList = [] ∧ (t.size : Int) = 0 := by
    have h6 := (fine_range h).2.2.2.2.2
    have : t.toList = [] := h6 (by omega) (by omega)
    exact ⟨this, by rw [size_nil this]; rfl⟩
  unfold datum_fine.v
  rcases hj with ⟨rfl, hj⟩ | ⟨rfl, hj⟩
  · have hk : kOf 4 = some (0, 4294967295) := rfl
    rw [hk]
    simp [ht.1]
    have := ht.2
    omega
  · have hk : kOf 5 = some (-9223372036854775808, 9223372036854775807) := rfl
    rw [hk]
    simp [ht.1]
    have := ht.2
    omega
theorem fine_zI {k i : Int} {t : ByteArray} (m : Bool) (h : datum_fine.v k i t = true) : datum_fine.v k (zI (signOf k) m i) t = true := by
  rcases zI_cases k i m with he | ⟨hk, _, hz⟩ | ⟨hk, _, hz⟩
  · rw [he]; exact h
  · exact fine_z h (.inl ⟨hk, hz⟩)
  · exact fine_z h (.inr ⟨hk, hz⟩)
theorem of_zI {t0 t1 i : Int} {t : ByteArray} (m : Bool) (h : ofB t0 t1 ⟨t0, i, t⟩ = true) : ofB t0 t1 ⟨t0, zI (signOf t0) m i, t⟩ = true := by
  obtain ⟨hc, hf, hk, h7⟩ := (ofB_iff _ _ _ _ _).1 h
  exact (ofB_iff _ _ _ _ _).2 ⟨hc, fine_zI m hf, hk, h7⟩
theorem ok_of {k i : Int} {t : ByteArray} (h : datum_fine.v k i t = true) (hn : (k = 4 ∨ k = 5) → nanD k i = false) : okD k i t = true := by
  unfold okD isReal
  rw [h]
  by_cases h4 : k = 4
  · subst h4; simp [hn (.inl rfl)]
  · by_cases h5 : k = 5
    · subst h5; simp [hn (.inr rfl)]
    · simp [h4, h5]
theorem ok_fine {k i : Int} {t : ByteArray} (h : okD k i t = true) : datum_fine.v k i t = true := by
  unfold okD at h
  rw [Bool.and_eq_true] at h
  exact h.1
theorem kc_zI {k i : Int} {t : ByteArray} (m : Bool) (h : okD k i t = true) : okD k (zI (signOf k) m i) t = true ∧ kc k (zI (signOf k) m i) t i t = 0 ∧ kc k i t (zI (signOf k) m i) t = 0 := by
  rcases zI_cases k i m with he | ⟨hk, hi, hz⟩ | ⟨hk, hi, hz⟩
  · rw [he]; exact ⟨h, kc_refl h, kc_refl h⟩
  · subst hk
    have hok : ∀ j, (j = 0 ∨ j = 2147483648) → okD 4 j t = true := fun j hj => ok_of (fine_z (ok_fine h) (.inl ⟨rfl, hj⟩)) (fun _ => by rcases hj with rfl | rfl; exact nan4.1; exact nan4.2)
    have hkc : ∀ a b, (a = 0 ∨ a = 2147483648) → (b = 0 ∨ b = 2147483648) → kc 4 a t b t = 0 := by
      intro a b ha hb
      rcases ha with rfl | rfl <;> rcases hb with rfl | rfl
      · exact kc_refl (hok _ (.inl rfl))
      · unfold kc; rw [if_pos (.inl rfl)]; exact z4a
      · unfold kc; rw [if_pos (.inl rfl)]; exact z4b
      · exact kc_refl (hok _ (.inr rfl))
    exact ⟨hok _ hz, hkc _ _ hz hi, hkc _ _ hi hz⟩
  · subst hk
    have hok : ∀ j, (j = 0 ∨ j = -9223372036854775808) → okD 5 j t = true := fun j hj => ok_of (fine_z (ok_fine h) (.inr ⟨rfl, hj⟩)) (fun _ => by rcases hj with rfl | rfl; exact nan5.1; exact nan5.2)
    have hkc : ∀ a b, (a = 0 ∨ a = -9223372036854775808) → (b = 0 ∨ b = -9223372036854775808) → kc 5 a t b t = 0 := by
      intro a b ha hb
      rcases ha with rfl | rfl <;> rcases hb with rfl | rfl
      · exact kc_refl (hok _ (.inl rfl))
      · unfold kc; rw [if_pos (.inr rfl)]; exact z5a
      · unfold kc; rw [if_pos (.inr rfl)]; exact z5b
      · exact kc_refl (hok _ (.inr rfl))
    exact ⟨hok _ hz, hkc _ _ hz hi, hkc _ _ hi hz⟩
/-! ### The best one -/
theorem bestL_best {P : S29 → Prop} {p : S29 → S29 → Bool} (htr : ∀ a b c, P a → P b → P c → p b a = false → p c b = false → p c a = false) (has : ∀ a b, P a → P b → p a b = true → p b a = false) :
    ∀ (l : List S29) (b : S29), P b → (∀ x ∈ l, P x) → P (bestL p b l) ∧ p b (bestL p b l) = false ∧ ∀ x ∈ l, p x (bestL p b l) = false := by
  intro l
  induction l with
  | nil =>
    intro b hb _
    refine ⟨hb, ?_, fun x hx => by cases hx⟩
    show p b b = false
    cases h : p b b with
    | false => rfl
    | true => rw [← h]; exact has b b hb hb h
  | cons x xs ih =>
    intro b hb hl
    have hx : P x := hl x List.mem_cons_self
    have hxs : ∀ y ∈ xs, P y := fun y hy => hl y (List.mem_cons_of_mem _ hy)
    have e : bestL p b (x :: xs) = bestL p (if p x b then x else b) xs := rfl
    rw [e]
    cases h : p x b with
    | true =>
      rw [if_pos rfl]
      obtain ⟨h1, h2, h3⟩ := ih x hx hxs
      refine ⟨h1, htr _ x b h1 hx hb h2 (has x b hx hb h), fun y hy => ?_⟩
      rcases List.mem_cons.mp hy with rfl | hy
      · exact h2
      · exact h3 y hy
    | false =>
      rw [if_neg (by decide)]
      obtain ⟨h1, h2, h3⟩ := ih b hb hxs
      refine ⟨h1, h2, fun y hy => ?_⟩
      rcases List.mem_cons.mp hy with rfl | hy
      · exact htr _ b y h1 hb hx h2 h
      · exact h3 y hy
def OkK (k : Int) (x : S29) : Prop := x.f0 = k ∧ okD k x.f1 x.f2 = true
theorem ahead_kc {k : Int} {x y : S29} (hx : OkK k x) (hy : OkK k y) : aheadB x y = decide (kc k x.f1 x.f2 y.f1 y.f2 < 0) := by
  obtain ⟨hx0, hx1⟩ := hx
  obtain ⟨hy0, hy1⟩ := hy
  unfold aheadB
  rw [cmp_f, hx0, hy0]
  unfold cv
  rw [if_pos ⟨hx1, hy1, rfl⟩]
theorem best_lo {k : Int} (l : List S29) (b : S29) (hb : OkK k b) (hl : ∀ x ∈ l, OkK k x) :
    OkK k (bestL aheadB b l) ∧ ∀ x ∈ b :: l, kc k (bestL aheadB b l).f1 (bestL aheadB b l).f2 x.f1 x.f2 ≤ 0 := by
  have h := bestL_best (P := OkK k) (p := aheadB) (by
    intro a b c ha hb hc h1 h2
    rw [ahead_kc hb ha] at h1
    rw [ahead_kc hc hb] at h2
    rw [ahead_kc hc ha]
    have e1 := of_decide_eq_false h1
    have e2 := of_decide_eq_false h2
    have s1 := kc_swap ha.2 hb.2
    have s2 := kc_swap hb.2 hc.2
    have s3 := kc_swap ha.2 hc.2
    have t := (kc_trans ha.2 hb.2 hc.2).1 (by omega) (by omega)
    exact decide_eq_false (by omega)) (by
    intro a b ha hb h
    rw [ahead_kc ha hb] at h
    rw [ahead_kc hb ha]
    have e := of_decide_eq_true h
    have s := kc_swap ha.2 hb.2
    exact decide_eq_false (by omega)) l b hb hl
  refine ⟨h.1, fun x hx => ?_⟩
  have hP : OkK k x := by
    rcases List.mem_cons.mp hx with rfl | hx
    · exact hb
    · exact hl x hx
  have h2 : aheadB x (bestL aheadB b l) = false := by
    rcases List.mem_cons.mp hx with rfl | hx
    · exact h.2.1
    · exact h.2.2 x hx
  rw [ahead_kc hP h.1] at h2
  have e := of_decide_eq_false h2
  have s := kc_swap hP.2 h.1.2
  omega
theorem best_hi {k : Int} (l : List S29) (b : S29) (hb : OkK k b) (hl : ∀ x ∈ l, OkK k x) :
    OkK k (bestL (fun a b => aheadB b a) b l) ∧ ∀ x ∈ b :: l, kc k x.f1 x.f2 (bestL (fun a b => aheadB b a) b l).f1 (bestL (fun a b => aheadB b a) b l).f2 ≤ 0 := by
  have h := bestL_best (P := OkK k) (p := fun a b => aheadB b a) (by
    intro a b c ha hb hc h1 h2
    rw [ahead_kc ha hb] at h1
    rw [ahead_kc hb hc] at h2
    show aheadB a c = false
    rw [ahead_kc ha hc]
    have e1 := of_decide_eq_false h1
    have e2 := of_decide_eq_false h2
    have s1 := kc_swap ha.2 hb.2
    have s2 := kc_swap hb.2 hc.2
    have s3 := kc_swap ha.2 hc.2
    have t := (kc_trans hc.2 hb.2 ha.2).1 (by omega) (by omega)
    exact decide_eq_false (by omega)) (by
    intro a b ha hb h
    have h : aheadB b a = true := h
    show aheadB a b = false
    rw [ahead_kc hb ha] at h
    rw [ahead_kc ha hb]
    have e := of_decide_eq_true h
    have s := kc_swap ha.2 hb.2
    exact decide_eq_false (by omega)) l b hb hl
  refine ⟨h.1, fun x hx => ?_⟩
  have hP : OkK k x := by
    rcases List.mem_cons.mp hx with rfl | hx
    · exact hb
    · exact hl x hx
  have h2 : aheadB (bestL (fun a b => aheadB b a) b l) x = false := by
    rcases List.mem_cons.mp hx with rfl | hx
    · exact h.2.1
    · exact h.2.2 x hx
  rw [ahead_kc h.1 hP] at h2
  have e := of_decide_eq_false h2
  have s := kc_swap hP.2 h.1.2
  omega
/-! ### What is known of data -/
def ofV (t0 : Int) (l : List S29) (nulls : Int) : Int × Bool × ByteArray × ByteArray :=
  match l.filter (fun x => !nanV x) with
  | [] => (nulls, false, ⟨#[]⟩, ⟨#[]⟩)
  | x :: xs => (nulls, true, layV (bestL aheadB x xs).f0 (zI (signOf t0) true (bestL aheadB x xs).f1) (bestL aheadB x xs).f2, layV (bestL (fun a b => aheadB b a) x xs).f0 (zI (signOf t0) false (bestL (fun a b => aheadB b a) x xs).f1) (bestL (fun a b => aheadB b a) x xs).f2)
theorem of_f {t0 t1 : Int} {l : List S29} {nulls : Int} (hl : l.length ≤ 1000000) (hc : datum_Check.v t0 t1 = 0) (h0 : 0 ≤ nulls) (h1 : nulls ≤ 65536) (hall : ∀ x ∈ l, ofB t0 t1 x = true) : ranges_Of.f t0 t1 l nulls = some (ofV t0 l nulls) := by
  unfold ranges_Of.f
  rw [if_pos hl, if_neg (not_not_intro hc), if_neg (by omega), if_neg (by omega), if_neg]
  · unfold ranges_Of.g ofV
    generalize l.filter (fun x => !nanV x) = l2
    cases l2 with
    | nil => rfl
    | cons x xs =>
      simp only [lay_v, Option.bind_some]
  · intro h
    obtain ⟨x, hx, hf⟩ := List.any_eq_true.mp h
    rw [hall x hx] at hf
    cases hf
theorem ok_mem {t0 t1 : Int} {l : List S29} (hall : ∀ x ∈ l, ofB t0 t1 x = true) (y : S29) (hy : y ∈ l.filter (fun x => !nanV x)) : OkK t0 y ∧ ofB t0 t1 ⟨t0, y.f1, y.f2⟩ = true := by
  obtain ⟨hy, hn⟩ := List.mem_filter.mp hy
  have ho := hall y hy
  obtain ⟨k, i, t⟩ := y
  have hk := okD_nan ho
  obtain ⟨rfl, h2⟩ := hk
  refine ⟨⟨rfl, ?_⟩, ho⟩
  cases h : okD k i t with
  | true => rfl
  | false =>
    have h3 := h2.1 h
    rw [h3] at hn
    cases hn
/-- What is known, in full: the ends read again, and how they lie to the data. -/
theorem of_ends {t0 t1 : Int} {l : List S29} {nulls : Int} (hall : ∀ x ∈ l, ofB t0 t1 x = true) (hne : l.filter (fun x => !nanV x) ≠ []) :
    ∃ i1 u1 i2 u2, ofV t0 l nulls = (nulls, true, layV t0 i1 u1, layV t0 i2 u2) ∧ readV t0 t1 (layV t0 i1 u1) = (t0, i1, u1, 0) ∧ readV t0 t1 (layV t0 i2 u2) = (t0, i2, u2, 0) ∧ okD t0 i1 u1 = true ∧ okD t0 i2 u2 = true ∧
      zI (signOf t0) true i1 = i1 ∧ zI (signOf t0) false i2 = i2 ∧ (∀ y ∈ l.filter (fun x => !nanV x), kc t0 i1 u1 y.f1 y.f2 ≤ 0 ∧ kc t0 y.f1 y.f2 i2 u2 ≤ 0) ∧ (∃ y ∈ l, u1 = y.f2) ∧ (∃ y ∈ l, u2 = y.f2) := by
  have hok := ok_mem hall
  cases hl : l.filter (fun x => !nanV x) with
  | nil => exact absurd hl hne
  | cons x xs =>
    rw [hl] at hok
    have hx := (hok x List.mem_cons_self).1
    have hxs : ∀ y ∈ xs, OkK t0 y := fun y hy => (hok y (List.mem_cons_of_mem _ hy)).1
    have b1 := best_lo xs x hx hxs
    have b2 := best_hi xs x hx hxs
    have m1 := bestL_mem aheadB xs x
    have m2 := bestL_mem (fun a b => aheadB b a) xs x
    have m1' : bestL aheadB x xs ∈ x :: xs := by rcases m1 with h | h; rw [h]; exact List.mem_cons_self; exact List.mem_cons_of_mem _ h
    have m2' : bestL (fun a b => aheadB b a) x xs ∈ x :: xs := by rcases m2 with h | h; rw [h]; exact List.mem_cons_self; exact List.mem_cons_of_mem _ h
    have eV : ofV t0 l nulls = (nulls, true, layV (bestL aheadB x xs).f0 (zI (signOf t0) true (bestL aheadB x xs).f1) (bestL aheadB x xs).f2, layV (bestL (fun a b => aheadB b a) x xs).f0 (zI (signOf t0) false (bestL (fun a b => aheadB b a) x xs).f1) (bestL (fun a b => aheadB b a) x xs).f2) := by
      unfold ofV
      rw [hl]
    generalize bestL aheadB x xs = lo at *
    generalize bestL (fun a b => aheadB b a) x xs = hi at *
    have z1 := kc_zI true b1.1.2
    have z2 := kc_zI false b2.1.2
    refine ⟨zI (signOf t0) true lo.f1, lo.f2, zI (signOf t0) false hi.f1, hi.f2, ?_, read_lay (of_zI true (hok lo m1').2), read_lay (of_zI false (hok hi m2').2), z1.1, z2.1, zI_idem _ _ _, zI_idem _ _ _, fun y hy => ⟨?_, ?_⟩, ⟨lo, ?_, rfl⟩, ⟨hi, ?_, rfl⟩⟩
    · rw [eV, b1.1.1, b2.1.1]
    · exact (kc_trans z1.1 b1.1.2 (hok y hy).1.2).1 (by omega) (b1.2 y hy)
    · exact (kc_trans (hok y hy).1.2 b2.1.2 z2.1).1 (b2.2 y hy) (by omega)
    · exact (List.mem_filter.mp (hl ▸ m1')).1
    · exact (List.mem_filter.mp (hl ▸ m2')).1
theorem of_first (t0 : Int) (l : List S29) (nulls : Int) : (ofV t0 l nulls).1 = nulls := by
  unfold ofV
  split <;> rfl
theorem of_small (t0 : Int) (l : List S29) (nulls : Int) : (ofV t0 l nulls).2.2.1.size ≤ 1048576 ∧ (ofV t0 l nulls).2.2.2.size ≤ 1048576 := by
  unfold ofV
  split
  · exact ⟨Nat.zero_le _, Nat.zero_le _⟩
  · exact ⟨lay_small _ _ _, lay_small _ _ _⟩
/-- What is known of data may be. -/
theorem of_check {t0 t1 : Int} {l : List S29} {nulls : Int} (hc : datum_Check.v t0 t1 = 0) (h0 : 0 ≤ nulls) (h1 : nulls ≤ 65536) (hall : ∀ x ∈ l, ofB t0 t1 x = true) :
    checkV t0 t1 (ofV t0 l nulls).1 (ofV t0 l nulls).2.1 (ofV t0 l nulls).2.2.1 (ofV t0 l nulls).2.2.2 = 0 := by
  unfold checkV
  rw [if_neg (not_not_intro hc), of_first, if_neg (by omega)]
  by_cases hne : l.filter (fun x => !nanV x) = []
  · have e : ofV t0 l nulls = (nulls, false, ⟨#[]⟩, ⟨#[]⟩) := by unfold ofV; rw [hne]
    rw [e, if_neg (by simp), if_pos]
    exact ⟨nil_size rfl, nil_size rfl⟩
  · obtain ⟨i1, u1, i2, u2, e, r1, r2, o1, o2, z1, z2, hk, _⟩ := of_ends (nulls := nulls) hall hne
    rw [e]
    simp only
    rw [if_pos trivial, if_pos]
    unfold endsV
    rw [r1, r2]
    obtain ⟨y, hy⟩ := List.exists_mem_of_ne_nil _ hne
    have hyo := (ok_mem hall y hy).1
    have hky := hk y hy
    have t := (kc_trans o1 hyo.2 o2).1 hky.1 hky.2
    have ecv : cv t0 i1 u1 t0 i2 u2 = (kc t0 i1 u1 i2 u2, true) := by unfold cv; rw [if_pos ⟨o1, o2, rfl⟩]
    rw [ecv, z1, z2]
    simp [t]
end Go.Proofs.Ytncehlbhjoejhaa.RngSnd
end
section
namespace Go.Proofs.Ytncehlbhjoejhaa.RngOf
open Go.RowKit Go.Proofs.YtncehlbhjoejhaaW.PrintWords Go.Proofs.YtncehlbhjoejhaaW.PrintLast Go.Proofs.YtncehlbhjoejhaaW.PrintMore Go.Proofs.Ytncehlbhjoejhaa.H Go.Proofs.Ytncehlbhjoejhaa.DatAid Go.Proofs.Ytncehlbhjoejhaa.RngAid Go.Proofs.Ytncehlbhjoejhaa.CmpAid Go.Proofs.Ytncehlbhjoejhaa.RngOrd Go.Proofs.Ytncehlbhjoejhaa.RngSnd Go.Proofs.YtncehlbhjoejhaaF
set_option linter.unusedVariables false
set_option linter.unusedSimpArgs false
theorem sc_zero : ∀ x y : List UInt8, sc x y = 0 → x = y
  | [], [] => fun _ => rfl
  | [], _ :: _ => fun h => by simp [sc] at h
  | _ :: _, [] => fun h => by simp [sc] at h
  | x :: xs, y :: ys => fun h => by
    simp only [sc] at h
    by_cases h1 : x < y
    · rw [if_pos h1] at h; exact absurd h (by decide)
    · rw [if_neg h1] at h
      by_cases h2 : y < x
      · rw [if_pos h2] at h; exact absurd h (by decide)
      · rw [if_neg h2] at h
        have e : x = y := by
          apply UInt8.toNat_inj.mp
          have a1 : ¬ x.toNat < y.toNat := h1
          have a2 : ¬ y.toNat < x.toNat := h2
          omega
        rw [e, sc_zero xs ys h]
theorem toList_inj {a b : ByteArray} (h : a.toList = b.toList) : a = b := by
  rw [Lib.toList_data, Lib.toList_data] at h
  apply ByteArray.ext
  exact Array.toList_inj.mp h
theorem fcmp_zero {x y : Nat} (hx : (Ieee.double.read x).isNaN = false) (hy : (Ieee.double.read y).isNaN = false) (h : fcmpI x y = 0) : (Ieee.double.read x).order (Ieee.double.read y) = some .eq := by
  obtain ⟨o, ho⟩ := order_num hx hy
  unfold fcmpI at h
  rw [ho] at h
  cases o with
  | eq => exact ho
  | lt => exact absurd h (by decide)
  | gt => exact absurd h (by decide)
theorem u64_of (i : Int) : u64b i = (i % 18446744073709551616).toNat := by
  unfold u64b
  simp only [IntKind.wrap, IntKind.bits, IntKind.signed, Bool.false_and]
  simp
theorem zI_two {s : Int} (hs : s ≠ 0) (m : Bool) {i j : Int} (hi : i = 0 ∨ i = s) (hj : j = 0 ∨ j = s) : zI s m i = zI s m j := by
  have h1 : s ≠ 0 ∧ (i = 0 ∨ i = s) := ⟨hs, hi⟩
  have h2 : s ≠ 0 ∧ (j = 0 ∨ j = s) := ⟨hs, hj⟩
  unfold zI
  rw [if_pos h1, if_pos h2]
theorem ok_nan {k i : Int} {t : ByteArray} (h : okD k i t = true) (h45 : k = 4 ∨ k = 5) : nanD k i = false := by
  have hf := ok_fine h
  unfold okD isReal at h
  rw [hf] at h
  rcases h45 with rfl | rfl <;> simpa using h
/-- Two data that compare as the same are laid as the same bytes, once their zeros are told as one. -/
theorem lay_eq {k i1 i2 : Int} {t1 t2 : ByteArray} (m : Bool) (o1 : okD k i1 t1 = true) (o2 : okD k i2 t2 = true) (h : kc k i1 t1 i2 t2 = 0) : layV k (zI (signOf k) m i1) t1 = layV k (zI (signOf k) m i2) t2 := by
  have f1 := ok_fine o1
  have f2 := ok_fine o2
  have r1 := fine_range f1
  have r2 := fine_range f2
  have int : ¬ (k = 4 ∨ k = 5) → ¬ (k = 6 ∨ k = 7) → layV k (zI (signOf k) m i1) t1 = layV k (zI (signOf k) m i2) t2 := by
    intro h45 h67
    unfold kc at h
    rw [if_neg h45, if_neg h67] at h
    have e : i1 = i2 := by
      by_cases a : i1 < i2
      · rw [if_pos a] at h; exact absurd h (by decide)
      · by_cases b : i1 > i2
        · rw [if_neg a, if_pos b] at h; exact absurd h (by decide)
        · omega
    have e2 : t1 = t2 := (nil_eq (r1.2.2.2.2.2 (fun h => h67 (.inl h)) (fun h => h67 (.inr h)))).trans (nil_eq (r2.2.2.2.2.2 (fun h => h67 (.inl h)) (fun h => h67 (.inr h)))).symm
    rw [e, e2]
  have flo : (k = 4 ∨ k = 5) → zI (signOf k) m i1 = zI (signOf k) m i2 → layV k (zI (signOf k) m i1) t1 = layV k (zI (signOf k) m i2) t2 := by
    intro h45 he
    have e2 : t1 = t2 := (nil_eq (r1.2.2.2.2.2 (by omega) (by omega))).trans (nil_eq (r2.2.2.2.2.2 (by omega) (by omega))).symm
    rw [he, e2]
  have txt : (k = 6 ∨ k = 7) → layV k (zI (signOf k) m i1) t1 = layV k (zI (signOf k) m i2) t2 := by
    intro h67
    unfold kc at h
    rw [if_neg (by omega), if_pos h67] at h
    have e2 := toList_inj (sc_zero _ _ h)
    have a1 := r1.2.2.2.2.1 h67
    have a2 := r2.2.2.2.2.1 h67
    rw [e2, a1, a2]
  rcases fine_kind f1 with rfl | rfl | rfl | rfl | rfl | rfl | rfl
  · exact int (by omega) (by omega)
  · exact int (by omega) (by omega)
  · exact int (by omega) (by omega)
  · refine flo (.inl rfl) ?_
    unfold kc at h
    rw [if_pos (.inl rfl)] at h
    have h1 := fcmp_zero (okD_num o1 (.inl rfl)) (okD_num o2 (.inl rfl)) h
    have n1 := ok_nan o1 (.inl rfl)
    have n2 := ok_nan o2 (.inl rfl)
    have a1 := r1.2.2.2.1 rfl
    have a2 := r2.2.2.2.1 rfl
    have e1 : rbits 4 i1 = Ieee.double.write (Ieee.single.read i1.toNat) := rfl
    have e2 : rbits 4 i2 = Ieee.double.write (Ieee.single.read i2.toNat) := rfl
    rw [e1, e2] at h1
    rcases same32 i1.toNat i2.toNat (by omega) (by omega) n1 n2 h1 with h2 | ⟨h2, h3⟩
    · rw [show i1 = i2 by omega]
    · have hs : signOf 4 = 2147483648 := rfl
      rw [hs]
      exact zI_two (by decide) m (by omega) (by omega)
  · refine flo (.inr rfl) ?_
    unfold kc at h
    rw [if_pos (.inr rfl)] at h
    have h1 := fcmp_zero (okD_num o1 (.inr rfl)) (okD_num o2 (.inr rfl)) h
    have a1 := r1.2.2.1 (.inr rfl)
    have a2 := r2.2.2.1 (.inr rfl)
    have e1 : rbits 5 i1 = u64b i1 := rfl
    have e2 : rbits 5 i2 = u64b i2 := rfl
    rw [e1, e2, u64_of, u64_of] at h1
    rcases same64 _ _ (by omega) (by omega) h1 with h2 | ⟨h2, h3⟩
    · rw [show i1 = i2 by omega]
    · have hs : signOf 5 = -9223372036854775808 := rfl
      rw [hs]
      exact zI_two (by decide) m (by omega) (by omega)
  · exact txt (.inl rfl)
  · exact txt (.inr rfl)
/-! ### The document's Of -/
theorem wrap_next (i : Nat) (h : i < 1000000000000000) : wrap64 ((i : Int) + 1) = ((i + 1 : Nat) : Int) := by
  unfold wrap64
  omega
end Go.Proofs.Ytncehlbhjoejhaa.RngOf
end
section
namespace Go.Proofs.Ytncehlbhjoejhaa.RngPts
open Go.RowKit Go.Proofs.YtncehlbhjoejhaaW.PrintWords Go.Proofs.YtncehlbhjoejhaaW.PrintLast Go.Proofs.YtncehlbhjoejhaaW.PrintMore Go.Proofs.Ytncehlbhjoejhaa.H Go.Proofs.Ytncehlbhjoejhaa.DatAid Go.Proofs.Ytncehlbhjoejhaa.RngAid Go.Proofs.Ytncehlbhjoejhaa.CmpAid Go.Proofs.Ytncehlbhjoejhaa.RngOrd Go.Proofs.Ytncehlbhjoejhaa.RngSnd Go.Proofs.Ytncehlbhjoejhaa.RngOf Go.Proofs.YtncehlbhjoejhaaF
set_option linter.unusedVariables false
set_option linter.unusedSimpArgs false
def okL (l : List S29) : List S29 := l.filter (fun x => !nanV x)
/-- What is known, by any two data that are least and greatest. -/
theorem of_char {t0 t1 : Int} {l : List S29} (n : Int) (hall : ∀ x ∈ l, ofB t0 t1 x = true) {i1 i2 : Int} {u1 u2 : ByteArray} (o1 : okD t0 i1 u1 = true) (o2 : okD t0 i2 u2 = true)
    (h1 : ∀ y ∈ okL l, kc t0 i1 u1 y.f1 y.f2 ≤ 0) (h2 : ∀ y ∈ okL l, kc t0 y.f1 y.f2 i2 u2 ≤ 0) (a1 : ∃ y ∈ okL l, kc t0 y.f1 y.f2 i1 u1 ≤ 0) (a2 : ∃ y ∈ okL l, kc t0 i2 u2 y.f1 y.f2 ≤ 0) :
    ofV t0 l n = (n, true, layV t0 (zI (signOf t0) true i1) u1, layV t0 (zI (signOf t0) false i2) u2) := by
  have hok := ok_mem hall
  unfold okL at *
  unfold ofV
  cases hl : l.filter (fun x => !nanV x) with
  | nil =>
    obtain ⟨y, hy, _⟩ := a1
    rw [hl] at hy
    cases hy
  | cons x xs =>
    rw [hl] at hok h1 h2 a1 a2
    have hx := (hok x List.mem_cons_self).1
    have hxs : ∀ y ∈ xs, OkK t0 y := fun y hy => (hok y (List.mem_cons_of_mem _ hy)).1
    have b1 := best_lo xs x hx hxs
    have b2 := best_hi xs x hx hxs
    have m1 := bestL_mem aheadB xs x
    have m2 := bestL_mem (fun a b => aheadB b a) xs x
    have m1' : bestL aheadB x xs ∈ x :: xs := by rcases m1 with h | h; rw [h]; exact List.mem_cons_self; exact List.mem_cons_of_mem _ h
    have m2' : bestL (fun a b => aheadB b a) x xs ∈ x :: xs := by rcases m2 with h | h; rw [h]; exact List.mem_cons_self; exact List.mem_cons_of_mem _ h
    simp only
    generalize bestL aheadB x xs = lo at *
    generalize bestL (fun a b => aheadB b a) x xs = hi at *
    obtain ⟨y1, hy1, e1⟩ := a1
    obtain ⟨y2, hy2, e2⟩ := a2
    have p1 := (kc_trans b1.1.2 (hok y1 hy1).1.2 o1).1 (b1.2 y1 hy1) e1
    have p2 := h1 lo m1'
    have p3 := kc_swap o1 b1.1.2
    have q1 := (kc_trans o2 (hok y2 hy2).1.2 b2.1.2).1 e2 (b2.2 y2 hy2)
    have q2 := h2 hi m2'
    have q3 := kc_swap o2 b2.1.2
    have L1 := lay_eq true o1 b1.1.2 (by omega)
    have L2 := lay_eq false o2 b2.1.2 (by omega)
    rw [b1.1.1, b2.1.1, L1, L2]
/-- Data that are least and greatest there are. -/
theorem of_att {t0 t1 : Int} {l : List S29} (hall : ∀ x ∈ l, ofB t0 t1 x = true) (hne : okL l ≠ []) :
    ∃ lo ∈ okL l, ∃ hi ∈ okL l, (∀ y ∈ okL l, kc t0 lo.f1 lo.f2 y.f1 y.f2 ≤ 0) ∧ (∀ y ∈ okL l, kc t0 y.f1 y.f2 hi.f1 hi.f2 ≤ 0) := by
  have hok := ok_mem hall
  unfold okL at *
  cases hl : l.filter (fun x => !nanV x) with
  | nil => exact absurd hl hne
  | cons x xs =>
    rw [hl] at hok
    have hx := (hok x List.mem_cons_self).1
    have hxs : ∀ y ∈ xs, OkK t0 y := fun y hy => (hok y (List.mem_cons_of_mem _ hy)).1
    have b1 := best_lo xs x hx hxs
    have b2 := best_hi xs x hx hxs
    have m1 := bestL_mem aheadB xs x
    have m2 := bestL_mem (fun a b => aheadB b a) xs x
    have m1' : bestL aheadB x xs ∈ x :: xs := by rcases m1 with h | h; rw [h]; exact List.mem_cons_self; exact List.mem_cons_of_mem _ h
    have m2' : bestL (fun a b => aheadB b a) x xs ∈ x :: xs := by rcases m2 with h | h; rw [h]; exact List.mem_cons_self; exact List.mem_cons_of_mem _ h
    exact ⟨_, m1', _, m2', b1.2, b2.2⟩
theorem okL_mem {l : List S29} {y : S29} : y ∈ okL l ↔ y ∈ l ∧ nanV y = false := by
  unfold okL
  rw [List.mem_filter]
  simp
theorem of_none {t0 : Int} {l : List S29} (n : Int) (h : okL l = []) : ofV t0 l n = (n, false, ⟨#[]⟩, ⟨#[]⟩) := by
  unfold okL at h
  unfold ofV
  rw [h]
/-- Of two rows with the same members what is known is the same. -/
theorem of_perm {t0 t1 : Int} {l m : List S29} (n : Int) (hl : ∀ x ∈ l, ofB t0 t1 x = true) (hm : ∀ x, x ∈ m ↔ x ∈ l) : ofV t0 m n = ofV t0 l n := by
  have hm' : ∀ x ∈ m, ofB t0 t1 x = true := fun x hx => hl x ((hm x).1 hx)
  have hk : ∀ y, y ∈ okL m ↔ y ∈ okL l := fun y => by rw [okL_mem, okL_mem, hm]
  by_cases hne : okL l = []
  · have hne2 : okL m = [] := by
      cases h : okL m with
      | nil => rfl
      | cons x xs =>
        have := (hk x).1 (by rw [h]; exact List.mem_cons_self)
        rw [hne] at this
        cases this
    rw [of_none n hne, of_none n hne2]
  · obtain ⟨lo, hlo, hi, hhi, c1, c2⟩ := of_att hl hne
    have o1 := (ok_mem hl lo hlo).1.2
    have o2 := (ok_mem hl hi hhi).1.2
    have r1 := kc_refl o1
    have r2 := kc_refl o2
    rw [of_char n hl o1 o2 c1 c2 ⟨lo, hlo, by omega⟩ ⟨hi, hhi, by omega⟩,
      of_char n hm' o1 o2 (fun y hy => c1 y ((hk y).1 hy)) (fun y hy => c2 y ((hk y).1 hy)) ⟨lo, (hk lo).2 hlo, by omega⟩ ⟨hi, (hk hi).2 hhi, by omega⟩]
/-- The data that a row's statistics are read as. -/
def endsL (t0 t1 : Int) (s : Int × Bool × ByteArray × ByteArray) : List S29 :=
  if s.2.1 = true then [⟨(readV t0 t1 s.2.2.1).1, (readV t0 t1 s.2.2.1).2.1, (readV t0 t1 s.2.2.1).2.2.1⟩, ⟨(readV t0 t1 s.2.2.2).1, (readV t0 t1 s.2.2.2).2.1, (readV t0 t1 s.2.2.2).2.2.1⟩] else []
theorem nanV_ok {t0 t1 i : Int} {u : ByteArray} (hf : ofB t0 t1 ⟨t0, i, u⟩ = true) (ho : okD t0 i u = true) : nanV ⟨t0, i, u⟩ = false := by
  have h := (okD_nan hf).2
  cases hn : nanV ⟨t0, i, u⟩ with
  | false => rfl
  | true =>
    have := h.2 hn
    rw [ho] at this
    cases this
/-- What the ends are, and how they lie. -/
theorem ends_of {t0 t1 : Int} {l : List S29} {n : Int} (hall : ∀ x ∈ l, ofB t0 t1 x = true) :
    (okL l = [] ∧ endsL t0 t1 (ofV t0 l n) = []) ∨ (okL l ≠ [] ∧ ∃ i1 u1 i2 u2, endsL t0 t1 (ofV t0 l n) = [⟨t0, i1, u1⟩, ⟨t0, i2, u2⟩] ∧ ofB t0 t1 ⟨t0, i1, u1⟩ = true ∧ ofB t0 t1 ⟨t0, i2, u2⟩ = true ∧ okD t0 i1 u1 = true ∧ okD t0 i2 u2 = true ∧
      (∀ y ∈ okL l, kc t0 i1 u1 y.f1 y.f2 ≤ 0 ∧ kc t0 y.f1 y.f2 i2 u2 ≤ 0) ∧ (∃ y ∈ okL l, kc t0 y.f1 y.f2 i1 u1 ≤ 0) ∧ (∃ y ∈ okL l, kc t0 i2 u2 y.f1 y.f2 ≤ 0)) := by
  by_cases hne : okL l = []
  · left
    refine ⟨hne, ?_⟩
    rw [of_none n hne]
    unfold endsL
    rw [if_neg (by simp)]
  · right
    refine ⟨hne, ?_⟩
    obtain ⟨lo, hlo, hi, hhi, c1, c2⟩ := of_att hall hne
    have k1 := ok_mem hall lo hlo
    have k2 := ok_mem hall hi hhi
    have z1 := kc_zI true k1.1.2
    have z2 := kc_zI false k2.1.2
    have r1 := kc_refl k1.1.2
    have r2 := kc_refl k2.1.2
    have e := of_char n hall k1.1.2 k2.1.2 c1 c2 ⟨lo, hlo, by omega⟩ ⟨hi, hhi, by omega⟩
    refine ⟨zI (signOf t0) true lo.f1, lo.f2, zI (signOf t0) false hi.f1, hi.f2, ?_, of_zI true k1.2, of_zI false k2.2, z1.1, z2.1, fun y hy => ⟨?_, ?_⟩, ⟨lo, hlo, by omega⟩, ⟨hi, hhi, by omega⟩⟩
    · rw [e]
      unfold endsL
      simp only
      rw [if_pos trivial, read_lay (of_zI true k1.2), read_lay (of_zI false k2.2)]
    · have ho := (ok_mem hall y hy).1.2
      exact (kc_trans z1.1 k1.1.2 ho).1 (by omega) (c1 y hy)
    · have ho := (ok_mem hall y hy).1.2
      exact (kc_trans ho k2.1.2 z2.1).1 (c2 y hy) (by omega)
/-- What is known of data that hold all of a row's ends, and lie between them, is what is known of the row. -/
theorem of_ends_join {t0 t1 : Int} {l d : List S29} (n : Int) (hl : ∀ x ∈ l, ofB t0 t1 x = true) (hd : ∀ x ∈ d, ofB t0 t1 x = true)
    (h1 : ∀ y ∈ okL l, ∃ x ∈ okL d, kc t0 x.f1 x.f2 y.f1 y.f2 ≤ 0) (h2 : ∀ y ∈ okL l, ∃ x ∈ okL d, kc t0 y.f1 y.f2 x.f1 x.f2 ≤ 0)
    (h3 : ∀ x ∈ okL d, ∃ y ∈ okL l, kc t0 y.f1 y.f2 x.f1 x.f2 ≤ 0) (h4 : ∀ x ∈ okL d, ∃ y ∈ okL l, kc t0 x.f1 x.f2 y.f1 y.f2 ≤ 0) : ofV t0 d n = ofV t0 l n := by
  by_cases hne : okL d = []
  · have hne2 : okL l = [] := by
      cases h : okL l with
      | nil => rfl
      | cons y ys =>
        obtain ⟨x, hx, _⟩ := h1 y (by rw [h]; exact List.mem_cons_self)
        rw [hne] at hx
        cases hx
    rw [of_none n hne, of_none n hne2]
  · obtain ⟨lo, hlo, hi, hhi, c1, c2⟩ := of_att hd hne
    have o1 := (ok_mem hd lo hlo).1.2
    have o2 := (ok_mem hd hi hhi).1.2
    have r1 := kc_refl o1
    have r2 := kc_refl o2
    rw [of_char n hd o1 o2 c1 c2 ⟨lo, hlo, by omega⟩ ⟨hi, hhi, by omega⟩]
    symm
    refine of_char n hl o1 o2 (fun y hy => ?_) (fun y hy => ?_) (h3 lo hlo) (h4 hi hhi)
    · obtain ⟨x, hx, e⟩ := h1 y hy
      exact (kc_trans o1 (ok_mem hd x hx).1.2 (ok_mem hl y hy).1.2).1 (c1 x hx) e
    · obtain ⟨x, hx, e⟩ := h2 y hy
      exact (kc_trans (ok_mem hl y hy).1.2 (ok_mem hd x hx).1.2 o2).1 e (c2 x hx)
/-- The ends of two parts, joined, tell what is known of both together. -/
theorem of_two {t0 t1 : Int} {l a b : List S29} (n na nb : Int) (hl : ∀ x ∈ l, ofB t0 t1 x = true) (hab : ∀ x, x ∈ l ↔ x ∈ a ∨ x ∈ b) :
    ofV t0 (endsL t0 t1 (ofV t0 a na) ++ endsL t0 t1 (ofV t0 b nb)) n = ofV t0 l n := by
  have ha : ∀ x ∈ a, ofB t0 t1 x = true := fun x hx => hl x ((hab x).2 (.inl hx))
  have hb : ∀ x ∈ b, ofB t0 t1 x = true := fun x hx => hl x ((hab x).2 (.inr hx))
  have hkab : ∀ y, y ∈ okL l ↔ y ∈ okL a ∨ y ∈ okL b := by
    intro y
    rw [okL_mem, okL_mem, okL_mem, hab]
    constructor
    · rintro ⟨h | h, hn⟩
      · exact .inl ⟨h, hn⟩
      · exact .inr ⟨h, hn⟩
    · rintro (⟨h, hn⟩ | ⟨h, hn⟩)
      · exact ⟨.inl h, hn⟩
      · exact ⟨.inr h, hn⟩
  -- one part: its ends are data, and lie as they should
  have one : ∀ (p : List S29) (np : Int), (∀ x ∈ p, ofB t0 t1 x = true) → (∀ x ∈ endsL t0 t1 (ofV t0 p np), ofB t0 t1 x = true ∧ nanV x = false) ∧ (∀ y ∈ okL p, ∃ x ∈ endsL t0 t1 (ofV t0 p np), kc t0 x.f1 x.f2 y.f1 y.f2 ≤ 0) ∧ (∀ y ∈ okL p, ∃ x ∈ endsL t0 t1 (ofV t0 p np), kc t0 y.f1 y.f2 x.f1 x.f2 ≤ 0) ∧
      (∀ x ∈ endsL t0 t1 (ofV t0 p np), ∃ y ∈ okL p, kc t0 y.f1 y.f2 x.f1 x.f2 ≤ 0) ∧ (∀ x ∈ endsL t0 t1 (ofV t0 p np), ∃ y ∈ okL p, kc t0 x.f1 x.f2 y.f1 y.f2 ≤ 0) := by
    intro p np hp
    rcases ends_of (n := np) hp with ⟨h0, e⟩ | ⟨h0, i1, u1, i2, u2, e, f1, f2, o1, o2, hy, ⟨y1, hy1, e1⟩, ⟨y2, hy2, e2⟩⟩
    · rw [e, h0]
      refine ⟨?_, ?_, ?_, ?_, ?_⟩ <;> (intro x hx; cases hx)
    · rw [e]
      have ok : ∀ y ∈ okL p, okD t0 y.f1 y.f2 = true := fun y hy => (ok_mem hp y hy).1.2
      refine ⟨fun x hx => ?_, fun y hy' => ⟨_, List.mem_cons_self, (hy y hy').1⟩, fun y hy' => ⟨_, List.mem_cons_of_mem _ List.mem_cons_self, (hy y hy').2⟩, fun x hx => ?_, fun x hx => ?_⟩
      · rcases List.mem_cons.mp hx with rfl | hx
        · exact ⟨f1, nanV_ok f1 o1⟩
        · rw [List.mem_singleton.mp hx]; exact ⟨f2, nanV_ok f2 o2⟩
      · rcases List.mem_cons.mp hx with rfl | hx
        · exact ⟨y1, hy1, e1⟩
        · rw [List.mem_singleton.mp hx]; exact ⟨y1, hy1, (hy y1 hy1).2⟩
      · rcases List.mem_cons.mp hx with rfl | hx
        · exact ⟨y1, hy1, (hy y1 hy1).1⟩
        · rw [List.mem_singleton.mp hx]; exact ⟨y2, hy2, e2⟩
  obtain ⟨a1, a2, a3, a4, a5⟩ := one a na ha
  obtain ⟨b1, b2, b3, b4, b5⟩ := one b nb hb
  have hmem : ∀ x, x ∈ okL (endsL t0 t1 (ofV t0 a na) ++ endsL t0 t1 (ofV t0 b nb)) ↔ x ∈ endsL t0 t1 (ofV t0 a na) ∨ x ∈ endsL t0 t1 (ofV t0 b nb) := by
    intro x
    rw [okL_mem, List.mem_append]
    constructor
    · exact fun h => h.1
    · rintro (h | h)
      · exact ⟨.inl h, (a1 x h).2⟩
      · exact ⟨.inr h, (b1 x h).2⟩
  refine of_ends_join n hl (fun x hx => ?_) (fun y hy => ?_) (fun y hy => ?_) (fun x hx => ?_) (fun x hx => ?_)
  · rcases List.mem_append.mp hx with h | h
    · exact (a1 x h).1
    · exact (b1 x h).1
  · rcases (hkab y).1 hy with h | h
    · obtain ⟨x, hx, e⟩ := a2 y h
      exact ⟨x, (hmem x).2 (.inl hx), e⟩
    · obtain ⟨x, hx, e⟩ := b2 y h
      exact ⟨x, (hmem x).2 (.inr hx), e⟩
  · rcases (hkab y).1 hy with h | h
    · obtain ⟨x, hx, e⟩ := a3 y h
      exact ⟨x, (hmem x).2 (.inl hx), e⟩
    · obtain ⟨x, hx, e⟩ := b3 y h
      exact ⟨x, (hmem x).2 (.inr hx), e⟩
  · rcases (hmem x).1 hx with h | h
    · obtain ⟨y, hy, e⟩ := a4 x h
      exact ⟨y, (hkab y).2 (.inl hy), e⟩
    · obtain ⟨y, hy, e⟩ := b4 x h
      exact ⟨y, (hkab y).2 (.inr hy), e⟩
  · rcases (hmem x).1 hx with h | h
    · obtain ⟨y, hy, e⟩ := a5 x h
      exact ⟨y, (hkab y).2 (.inl hy), e⟩
    · obtain ⟨y, hy, e⟩ := b5 x h
      exact ⟨y, (hkab y).2 (.inr hy), e⟩
/-- The ends of one row alone tell what is known of it. -/
theorem of_one {t0 t1 : Int} {l : List S29} (n nl : Int) (hl : ∀ x ∈ l, ofB t0 t1 x = true) : ofV t0 (endsL t0 t1 (ofV t0 l nl)) n = ofV t0 l n := by
  have h := of_two (l := l) (a := l) (b := []) n nl 0 hl (fun x => by simp)
  have e : endsL t0 t1 (ofV t0 [] 0) = [] := rfl
  rw [e, List.append_nil] at h
  exact h
end Go.Proofs.Ytncehlbhjoejhaa.RngPts
end
