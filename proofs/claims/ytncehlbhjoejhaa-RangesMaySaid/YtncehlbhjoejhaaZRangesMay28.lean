/- Texts of the claim, packed: RngOrd. -/
import Derived.Test.YtncehlbhjoejhaaZRangesMay4
import Derived.Test.YtncehlbhjoejhaaZRangesMay5
import Derived.Test.YtncehlbhjoejhaaZRangesMay6
import Derived.Test.YtncehlbhjoejhaaZRangesMay12
import Derived.Test.YtncehlbhjoejhaaZRangesMay15
import Derived.Test.YtncehlbhjoejhaaZRangesMay17
import Derived.Test.YtncehlbhjoejhaaZRangesMay20
import Derived.Test.YtncehlbhjoejhaaZRangesMay21
import Derived.Test.YtncehlbhjoejhaaZRangesMay22
import Derived.Test.YtncehlbhjoejhaaZRangesMay27
section
namespace Go.Proofs.Ytncehlbhjoejhaa.RngOrd
open Go.RowKit Go.Proofs.YtncehlbhjoejhaaW.PrintWords Go.Proofs.YtncehlbhjoejhaaW.PrintLast Go.Proofs.YtncehlbhjoejhaaW.PrintMore Go.Proofs.Ytncehlbhjoejhaa.H Go.Proofs.Ytncehlbhjoejhaa.DatAid Go.Proofs.Ytncehlbhjoejhaa.RngAid Go.Proofs.Ytncehlbhjoejhaa.CmpAid Go.Proofs.YtncehlbhjoejhaaF
set_option linter.unusedVariables false
set_option linter.unusedSimpArgs false
theorem int_f (a b : Int) : datum_order_int64.f a b = some (if a < b then -1 else if a > b then 1 else 0, true) := by
  unfold datum_order_int64.f cmp_Compare_int64.f cmp_isNaN_int64.f
  have h1 : (a != a) = false := by simp
  have h2 : (b != b) = false := by simp
  simp only [h1, h2]
  by_cases h : a < b
  · simp [h]
  · by_cases h' : a > b
    · simp [h, h']
    · simp [h, h']
def okD (k i : Int) (t : ByteArray) : Bool := datum_fine.v k i t && !(isReal k i t && nanD k i)
def kc (k i1 : Int) (t1 : ByteArray) (i2 : Int) (t2 : ByteArray) : Int :=
  if k = 4 ∨ k = 5 then fcmpI (rbits k i1) (rbits k i2) else if k = 6 ∨ k = 7 then sc t1.toList t2.toList else if i1 < i2 then -1 else if i1 > i2 then 1 else 0
def cv (k1 i1 : Int) (t1 : ByteArray) (k2 i2 : Int) (t2 : ByteArray) : Int × Bool := if okD k1 i1 t1 = true ∧ okD k2 i2 t2 = true ∧ k1 = k2 then (kc k1 i1 t1 i2 t2, true) else (0, false)
theorem cmp_f (k1 i1 : Int) (t1 : ByteArray) (k2 i2 : Int) (t2 : ByteArray) : datum_Compare.f k1 i1 t1 k2 i2 t2 = some (cv k1 i1 t1 k2 i2 t2) := by
  unfold datum_Compare.f cv okD kc
  rw [int_f]
  cases datum_fine.v k1 i1 t1 <;> cases datum_fine.v k2 i2 t2 <;> cases (isReal k1 i1 t1 && nanD k1 i1) <;> cases (isReal k2 i2 t2 && nanD k2 i2) <;> by_cases hk : k1 = k2 <;> simp [hk]
  subst hk
  by_cases h45 : k1 = 4 ∨ k1 = 5
  · simp [h45]
  · rw [if_neg h45, if_neg h45]
    by_cases h67 : k1 = 6 ∨ k1 = 7
    · rw [if_pos h67, if_pos h67, ← strI_sc]; rfl
    · rw [if_neg h67, if_neg h67]
theorem wrap_next (i : Nat) (h : i < 1000000000000000) : wrap64 ((i : Int) + 1) = ((i + 1 : Nat) : Int) := by
  unfold wrap64
  omega
theorem toList_len (a : ByteArray) : a.toList.length = a.size := by rw [Lib.toList_data, data_length]
theorem bt_get (a : ByteArray) (i : Nat) (h : i < a.size) (h' : i < a.toList.length) : bt a (i : Int) = ((a.toList[i]).toNat : Int) := by
  unfold bt
  rw [dif_pos (show ((i : Int)).toNat < a.size by omega)]
  simp only [Lib.toList_data]
  rfl
theorem texts_loop (a b : ByteArray) (ha : a.size ≤ 140737488351232) : ∀ d i K : Nat, a.size = i + d → i ≤ b.size → 2 * d + 2 < K → marquetryref09_Texts.l0 K a b (i : Int) = some (sc (a.toList.drop i) (b.toList.drop i)) := by
  intro d
  induction d with
  | zero =>
    intro i K hi hb hK
    obtain ⟨K', rfl⟩ : ∃ K', K = K' + 2 := ⟨K - 2, by omega⟩
    simp only [marquetryref09_Texts.l0, marquetryref09_Texts.j1]
    rw [if_neg (by omega : ¬ (i : Int) < (a.size : Int)), if_neg (by decide)]
    have e1 : a.toList.drop i = [] := List.drop_eq_nil_of_le (by rw [toList_len]; omega)
    rw [e1]
    by_cases h : i < b.size
    · rw [if_pos (by omega), List.drop_eq_getElem_cons (by rw [toList_len]; exact h)]
      rfl
    · rw [if_neg (by omega), if_neg (by omega), List.drop_eq_nil_of_le (by rw [toList_len]; omega)]
      rfl
  | succ d ih =>
    intro i K hi hb hK
    obtain ⟨K', rfl⟩ : ∃ K', K = K' + 2 := ⟨K - 2, by omega⟩
    have hia : i < a.toList.length := by rw [toList_len]; omega
    simp only [marquetryref09_Texts.l0, marquetryref09_Texts.j1]
    rw [if_pos (by omega : (i : Int) < (a.size : Int)), List.drop_eq_getElem_cons hia]
    by_cases h : i < b.size
    · have hib : i < b.toList.length := by rw [toList_len]; exact h
      rw [decide_eq_true (by omega : (i : Int) < (b.size : Int)), if_pos rfl, if_pos (by omega : 0 ≤ (i : Int)), if_pos (by omega : (i : Int) < (a.size : Int)), if_pos (by omega : (i : Int) < (b.size : Int)), wrap_next i (by omega), ih (i + 1) K' (by omega) (by omega) (by omega), List.drop_eq_getElem_cons hib, bt_get a i (by omega) hia, bt_get b i h hib]
      simp only [sc]
      have t : ∀ x y : UInt8, (x < y) ↔ x.toNat < y.toNat := fun x y => Iff.rfl
      by_cases h1 : (a.toList[i]).toNat < (b.toList[i]).toNat
      · rw [if_pos (by omega), if_pos ((t _ _).2 h1)]
      · rw [if_neg (by omega), if_neg (fun h => h1 ((t _ _).1 h))]
        by_cases h2 : (b.toList[i]).toNat < (a.toList[i]).toNat
        · rw [if_pos (by omega), if_pos ((t _ _).2 h2)]
        · rw [if_neg (by omega), if_neg (fun h => h2 ((t _ _).1 h))]
    · rw [decide_eq_false (by omega : ¬ (i : Int) < (b.size : Int)), if_neg (by decide), if_neg (by omega), if_pos (by omega), List.drop_eq_nil_of_le (by rw [toList_len]; omega : b.toList.length ≤ i)]
      rfl
theorem texts (a b : ByteArray) (ha : a.size ≤ 140737488351232) : marquetryref09_Texts.f (2 * a.size + 3) a b = some (strI a.toList b.toList) := by
  rw [strI_sc]
  exact texts_loop a b ha a.size 0 _ (by omega) (by omega) (by omega)
theorem cmp_same (k1 i1 : Int) (t1 : ByteArray) (k2 i2 : Int) (t2 : ByteArray) (r1 : inR i1) (r2 : inR i2) (ht1 : t1.size ≤ 140737488351232) : marquetryref09_Compare.f (2 * t1.size + 3) k1 i1 t1 k2 i2 t2 = some (cv k1 i1 t1 k2 i2 t2) := by
  have e : ∃ v, datum_Compare.f k1 i1 t1 k2 i2 t2 = some v ∧ marquetryref09_Compare.f (2 * t1.size + 3) k1 i1 t1 k2 i2 t2 = some v := by
    have er : marquetryref09_Compare.f (2 * t1.size + 3) k1 i1 t1 k2 i2 t2 = refCmp (marquetryref09_Texts.f (2 * t1.size + 3) t1 t2) k1 i1 t1 k2 i2 t2 := by
      unfold marquetryref09_Compare.f
      rw [if_pos ⟨r1, r2⟩]
    rw [er]
    unfold datum_Compare.f refCmp
    by_cases h : datum_fine.v k1 i1 t1 = false ∨ datum_fine.v k2 i2 t2 = false ∨ k1 ≠ k2
    · rw [if_pos h, if_pos (h.elim Or.inl (fun h => h.elim (fun h => Or.inr (Or.inl h)) (fun h => Or.inr (Or.inr (Or.inl h)))))]
      exact ⟨_, rfl, rfl⟩
    · have hf1 : datum_fine.v k1 i1 t1 = true := by
        cases hq : datum_fine.v k1 i1 t1 with
        | true => rfl
        | false => exact absurd (Or.inl hq) h
      have hf2 : datum_fine.v k2 i2 t2 = true := by
        cases hq : datum_fine.v k2 i2 t2 with
        | true => rfl
        | false => exact absurd (Or.inr (Or.inl hq)) h
      have hk : k1 = k2 := by
        by_cases hq : k1 = k2
        · exact hq
        · exact absurd (Or.inr (Or.inr hq)) h
      subst hk
      rw [if_neg (show ¬ (datum_fine.v k1 i1 t1 = false ∨ datum_fine.v k1 i2 t2 = false ∨ k1 ≠ k1) from h)]
      have hR1 : isReal k1 i1 t1 = (decide (k1 = 4) || decide (k1 = 5)) := by unfold isReal; rw [hf1, Bool.true_and]
      have hR2 : isReal k1 i2 t2 = (decide (k1 = 4) || decide (k1 = 5)) := by unfold isReal; rw [hf2, Bool.true_and]
      rw [hR1, hR2, hf1, hf2]
      by_cases h45 : k1 = 4 ∨ k1 = 5
      · have h67 : ¬ (k1 = 6 ∨ k1 = 7) := by omega
        have hd : (decide (k1 = 4) || decide (k1 = 5)) = true := by simpa using h45
        rw [hd]
        by_cases hn : nanD k1 i1 = true ∨ nanD k1 i2 = true
        · exact ⟨(0, false), by rw [if_pos (by rcases hn with hn | hn <;> simp [hn])], by rw [if_neg h67, if_pos h45, if_pos hn]⟩
        · exact ⟨(fcmpI (rbits k1 i1) (rbits k1 i2), true), by rw [if_neg (by simp at hn ⊢; exact hn), if_pos h45], by rw [if_neg h67, if_pos h45, if_neg hn]⟩
      · have hd : (decide (k1 = 4) || decide (k1 = 5)) = false := by simpa using h45
        rw [hd]
        by_cases h67 : k1 = 6 ∨ k1 = 7
        · exact ⟨(strI t1.toList t2.toList, true), by rw [if_neg (by simp), if_neg h45, if_pos h67]; rfl, by rw [if_pos h67, texts t1 t2 ht1]; rfl⟩
        · exact ⟨_, by rw [if_neg (by simp), if_neg h45, if_neg h67, int_f], by rw [if_neg h67, if_neg h45]⟩
  obtain ⟨v, e1, e2⟩ := e
  rw [cmp_f] at e1
  rw [e2, ← e1]
theorem upTo {α : Type} {f : Nat → Option α} (h : ∀ k, LeO (f k) (f (k + 1))) {a : Nat} {r : α} (e : f a = some r) {n : Nat} (hn : a ≤ n) : f n = some r := by
  have := up h e (n - a)
  rwa [show a + (n - a) = n by omega] at this
theorem cmp_at (k1 i1 : Int) (t1 : ByteArray) (k2 i2 : Int) (t2 : ByteArray) (r1 : inR i1) (r2 : inR i2) {n : Nat} (hn : 20003 ≤ n) (ht1 : t1.size ≤ 10000) : marquetryref09_Compare.f n k1 i1 t1 k2 i2 t2 = some (cv k1 i1 t1 k2 i2 t2) :=
  upTo (f := fun n => marquetryref09_Compare.f n k1 i1 t1 k2 i2 t2) (fun n => marquetryref09_Compare.mono _ _ _ _ _ _ n) (cmp_same k1 i1 t1 k2 i2 t2 r1 r2 (by omega)) (by omega)
/-- The datum of bytes. -/
def readV (t0 t1 : Int) (s : ByteArray) : Int × Int × ByteArray × Int :=
  if datum_Check.v t0 t1 ≠ 0 then (0, 0, ⟨#[]⟩, 2)
  else if wideI t0 = 0 then (if ofB t0 t1 ⟨t0, 0, s⟩ = true then (t0, 0, s, 0) else (0, 0, ⟨#[]⟩, 320))
  else if wideI t0 ≠ (s.size : Int) then (0, 0, ⟨#[]⟩, 320)
  else if ofB t0 t1 ⟨t0, readI t0 s, ⟨#[]⟩⟩ = true then (t0, readI t0 s, ⟨#[]⟩, 0) else (0, 0, ⟨#[]⟩, 320)
theorem read_f (t0 t1 : Int) (s : ByteArray) (hs : s.size ≤ 140737488351232) : ranges_Read.f t0 t1 s = some (readV t0 t1 s) := by
  unfold ranges_Read.f readV
  rw [if_pos hs]
  repeat' split
  all_goals first | rfl | contradiction
theorem readI_range (k : Int) (s : ByteArray) : inR (readI k s) := by
  unfold readI inR
  split
  · rw [IntKind.wrap_i32]; omega
  · rw [IntKind.wrap_i64]; omega
theorem readV_range (t0 t1 : Int) (s : ByteArray) : inR (readV t0 t1 s).2.1 ∧ (readV t0 t1 s).2.2.1.size ≤ s.size := by
  have h0 : inR 0 := by unfold inR; omega
  have he : (⟨#[]⟩ : ByteArray).size ≤ s.size := Nat.zero_le _
  unfold readV
  repeat' split
  all_goals first | exact ⟨h0, he⟩ | exact ⟨h0, Nat.le_refl _⟩ | exact ⟨readI_range _ _, he⟩
theorem readV_ok {t0 t1 : Int} {s : ByteArray} (h : (readV t0 t1 s).2.2.2 = 0) : (readV t0 t1 s).1 = t0 ∧ ofB t0 t1 ⟨t0, (readV t0 t1 s).2.1, (readV t0 t1 s).2.2.1⟩ = true := by
  unfold readV at h ⊢
  repeat' split
  all_goals first | exact ⟨rfl, by assumption⟩ | (exfalso; simp_all; done)
theorem refCheck_at (t0 t1 : Int) {n : Nat} (hn : 1 ≤ n) : marquetryref09_Check.f n t0 t1 = some (decide (datum_Check.v t0 t1 = 0)) :=
  upTo (f := fun n => marquetryref09_Check.f n t0 t1) (fun n => marquetryref09_Check.mono _ _ n) (ref_check t0 t1) hn
theorem refRead_at (t0 t1 : Int) (s : ByteArray) (hs : s.size ≤ 10000) {n : Nat} (hn : 16 ≤ n) : marquetryref22_Read.f n t0 t1 s = some (readV t0 t1 s) :=
  upTo (f := fun n => marquetryref22_Read.f n t0 t1 s) (fun n => marquetryref22_Read.mono _ _ _ n) ((read_same t0 t1 s hs).trans (read_f t0 t1 s (by omega))) hn
theorem refOf_at (k i : Int) (t : ByteArray) (t0 t1 : Int) (hi : inR i) {n : Nat} (hn : 1 ≤ n) : marquetryref09_Of.f n k i t t0 t1 = some (ofB t0 t1 ⟨k, i, t⟩) :=
  upTo (f := fun n => marquetryref09_Of.f n k i t t0 t1) (fun n => marquetryref09_Of.mono _ _ _ _ _ n) ((ref_of k i t t0 t1 hi).trans (of_val t0 t1 ⟨k, i, t⟩)) hn
theorem zero_2 (k i : Int) (t : ByteArray) (m : Bool) : marquetryref22_zero.f 2 k i t m = some (k, zI (signOf k) m i, t) := by
  unfold marquetryref22_zero.f
  simp only [marquetryref22_zero.j0, marquetryref22_zero.j1, marquetryref22_floats.f]
  unfold signOf zI
  by_cases h5 : k = 5
  · subst h5
    by_cases h0 : i = 0
    · subst h0; cases m <;> simp
    · by_cases hs : i = -9223372036854775808
      · subst hs; cases m <;> simp
      · cases m <;> simp [h0, hs]
  · by_cases h4 : k = 4
    · subst h4
      by_cases h0 : i = 0
      · subst h0; cases m <;> simp
      · by_cases hs : i = 2147483648
        · subst hs; cases m <;> simp
        · cases m <;> simp [h0, hs]
    · cases m <;> simp [h4, h5]
theorem zero_at (k i : Int) (t : ByteArray) (m : Bool) {n : Nat} (hn : 2 ≤ n) : marquetryref22_zero.f n k i t m = some (k, zI (signOf k) m i, t) :=
  upTo (f := fun n => marquetryref22_zero.f n k i t m) (fun n => marquetryref22_zero.mono _ _ _ _ n) (zero_2 k i t m) hn
/-- Whether the ends are what they may be. -/
def endsV (t0 t1 : Int) (least most : ByteArray) : Bool :=
  decide ((readV t0 t1 least).2.2.2 = 0) && (decide ((readV t0 t1 most).2.2.2 = 0) && ((cv t0 (readV t0 t1 least).2.1 (readV t0 t1 least).2.2.1 t0 (readV t0 t1 most).2.1 (readV t0 t1 most).2.2.1).2 && (decide ((cv t0 (readV t0 t1 least).2.1 (readV t0 t1 least).2.2.1 t0 (readV t0 t1 most).2.1 (readV t0 t1 most).2.2.1).1 ≤ 0) && (decide (zI (signOf t0) true (readV t0 t1 least).2.1 = (readV t0 t1 least).2.1) && decide (zI (signOf t0) false (readV t0 t1 most).2.1 = (readV t0 t1 most).2.1)))))
theorem ends_f (t0 t1 n : Int) (has : Bool) (least most : ByteArray) (hl : least.size ≤ 140737488351232) (hm : most.size ≤ 140737488351232) :
    ranges_ends.f t0 t1 n has least most = some ((readV t0 t1 least).1, (readV t0 t1 least).2.1, (readV t0 t1 least).2.2.1, (readV t0 t1 most).1, (readV t0 t1 most).2.1, (readV t0 t1 most).2.2.1, endsV t0 t1 least most) := by
  unfold ranges_ends.f endsV
  rw [read_f _ _ _ hl, read_f _ _ _ hm]
  simp only [Option.bind_some]
  by_cases h1 : (readV t0 t1 least).2.2.2 = 0
  · by_cases h2 : (readV t0 t1 most).2.2.2 = 0
    · rw [if_neg (by rw [h1, h2]; simp), cmp_f]
      simp only [Option.bind_some]
      rw [(readV_ok h1).1, (readV_ok h2).1]
      simp only [h1, h2, decide_true, Bool.true_and, Bool.and_assoc]
    · rw [if_pos (.inr h2)]
      simp [h2]
  · rw [if_pos (.inl h1)]
    simp [h1]
/-- What the check tells. -/
def checkV (t0 t1 n : Int) (has : Bool) (least most : ByteArray) : Int :=
  if datum_Check.v t0 t1 ≠ 0 then 2
  else if n < 0 ∨ n > 65536 then 320
  else if has = true then (if endsV t0 t1 least most = true then 0 else 320)
  else if least.toList = [] ∧ most.toList = [] then 0 else 320
theorem check_f (t0 t1 n : Int) (has : Bool) (least most : ByteArray) (hl : least.size ≤ 140737488351232) (hm : most.size ≤ 140737488351232) :
    ranges_Check.f t0 t1 n has least most = some (checkV t0 t1 n has least most) := by
  unfold ranges_Check.f checkV
  have e1 : datum_Check.f t0 t1 = some (datum_Check.v t0 t1) := rfl
  rw [e1, ends_f _ _ _ _ _ _ hl hm]
  simp only [Option.bind_some]
  by_cases hc : datum_Check.v t0 t1 = 0
  · rw [if_pos hc, if_neg (not_not_intro hc)]
    cases has with
    | true =>
      simp only [if_true]
      by_cases he : endsV t0 t1 least most = true
      · rw [if_pos he, if_pos he]
        by_cases h0 : n < 0
        · rw [if_pos h0, if_pos (.inl h0)]
        · by_cases h6 : n > 65536
          · rw [if_neg h0, if_pos h6, if_pos (.inr h6)]
          · rw [if_neg h0, if_neg h6, if_neg (by omega)]
      · rw [if_neg he, if_neg he]
        split <;> rfl
    | false =>
      have h2 : ((!false && (least.toList == ([] : List UInt8) && (most.toList == ([] : List UInt8)))) = true) ↔ (least.toList = [] ∧ most.toList = []) := by simp
      have hf : ¬ (false = true) := by decide
      rw [if_neg hf, if_neg hf]
      by_cases he : least.toList = [] ∧ most.toList = []
      · rw [if_pos (h2.2 he), if_pos he]
        by_cases h0 : n < 0
        · rw [if_pos h0, if_pos (.inl h0)]
        · by_cases h6 : n > 65536
          · rw [if_neg h0, if_pos h6, if_pos (.inr h6)]
          · rw [if_neg h0, if_neg h6, if_neg (by omega)]
      · rw [if_neg (fun h => he (h2.1 h)), if_neg he]
        split <;> rfl
  · rw [if_neg hc, if_pos hc]
theorem refCheck_e (t0 t1 : Int) (least most : ByteArray) (hl : least.size ≤ 10000) (hm : most.size ≤ 10000) :
    marquetryref22_Check.e 20005 t0 t1 least most = some (if endsV t0 t1 least most = true then 0 else 320) := by
  unfold marquetryref22_Check.e
  rw [refRead_at _ _ _ hl (by decide), refRead_at _ _ _ hm (by decide)]
  simp only [Option.bind_some]
  have r1 := readV_range t0 t1 least
  have r2 := readV_range t0 t1 most
  rw [cmp_at _ _ _ _ _ _ r1.1 r2.1 (by decide) (by omega)]
  simp only [Option.bind_some]
  by_cases h1 : (readV t0 t1 least).2.2.2 = 0
  · by_cases h2 : (readV t0 t1 most).2.2.2 = 0
    · rw [if_neg (not_not_intro h1), if_neg (not_not_intro h2), (readV_ok h1).1, (readV_ok h2).1]
      unfold marquetryref22_Check.g
      rw [zero_at _ _ _ _ (by decide), zero_at _ _ _ _ (by decide)]
      simp only [Option.bind_some]
      unfold endsV
      rw [h1, h2]
      generalize cv t0 (readV t0 t1 least).2.1 (readV t0 t1 least).2.2.1 t0 (readV t0 t1 most).2.1 (readV t0 t1 most).2.2.1 = c
      obtain ⟨c1, c2⟩ := c
      cases c2 with
      | false => simp
      | true =>
        by_cases hp : c1 > 0
        · have hp2 : ¬ c1 ≤ 0 := by omega
          simp [hp, hp2]
        · have hp2 : c1 ≤ 0 := by omega
          by_cases z1 : zI (signOf t0) true (readV t0 t1 least).2.1 = (readV t0 t1 least).2.1
          · by_cases z2 : zI (signOf t0) false (readV t0 t1 most).2.1 = (readV t0 t1 most).2.1
            · simp [hp, hp2, z1, z2]
            · simp [hp, hp2, z1, z2]
          · simp [hp, hp2, z1]
    · rw [if_neg (not_not_intro h1), if_pos h2]
      unfold endsV
      simp [h2]
  · rw [if_pos h1]
    unfold endsV
    simp [h1]
theorem refCheck22 (t0 t1 n : Int) (has : Bool) (least most : ByteArray) (hl : least.size ≤ 10000) (hm : most.size ≤ 10000) :
    marquetryref22_Check.f 20005 t0 t1 n has least most = some (checkV t0 t1 n has least most) := by
  unfold marquetryref22_Check.f checkV
  rw [refCheck_at _ _ (by decide)]
  simp only [Option.bind_some]
  by_cases hc : datum_Check.v t0 t1 = 0
  · rw [decide_eq_true hc, if_neg (by decide), if_neg (not_not_intro hc)]
    by_cases h0 : n < 0
    · rw [if_pos h0, if_pos (.inl h0)]
    · by_cases h6 : n > 65536
      · rw [if_neg h0, if_pos h6, if_pos (.inr h6)]
      · rw [if_neg h0, if_neg h6, if_neg (show ¬ (n < 0 ∨ n > 65536) by omega)]
        cases has with
        | true => rw [if_neg (show ¬ (true = false) by decide), if_pos (rfl : true = true), refCheck_e _ _ _ _ hl hm]
        | false =>
          rw [if_pos (rfl : false = false), if_neg (show ¬ (false = true) by decide)]
          by_cases h1 : least.toList = []
          · by_cases h2 : most.toList = []
            · rw [if_pos h1, if_pos h2, if_pos ⟨h1, h2⟩]
            · rw [if_pos h1, if_neg h2, if_neg (fun h => h2 h.2)]
          · rw [if_neg h1, if_neg (fun h => h1 h.1)]
  · rw [decide_eq_false hc, if_pos rfl, if_pos hc]
theorem refCheck22_at (t0 t1 n : Int) (has : Bool) (least most : ByteArray) (hl : least.size ≤ 10000) (hm : most.size ≤ 10000) {k : Nat} (hk : 20005 ≤ k) :
    marquetryref22_Check.f k t0 t1 n has least most = some (checkV t0 t1 n has least most) :=
  upTo (f := fun k => marquetryref22_Check.f k t0 t1 n has least most) (fun k => marquetryref22_Check.mono _ _ _ _ _ _ k) (refCheck22 t0 t1 n has least most hl hm) hk
/-- What May tells. -/
def mayV (op k i : Int) (t : ByteArray) (t0 t1 rows n : Int) (has : Bool) (least most : ByteArray) : Bool :=
  if checkV t0 t1 n has least most ≠ 0 then true else if rows < 0 then true
  else if op = 4 then decide (n > 0) else if op = 5 then decide (rows > n)
  else if op < 6 ∨ op > 11 then true
  else if ofB t0 t1 ⟨k, i, t⟩ = false then false else if okD k i t = false then false else if has = false then false else if rows ≤ n then false
  else cV op (cv (readV t0 t1 least).1 (readV t0 t1 least).2.1 (readV t0 t1 least).2.2.1 k i t).1 (cv (readV t0 t1 most).1 (readV t0 t1 most).2.1 (readV t0 t1 most).2.2.1 k i t).1
theorem fOf_some (op : Int) : (fOf op).isSome = false ↔ (op < 6 ∨ op > 11) := by
  unfold fOf
  constructor
  · intro h
    repeat' split at h
    all_goals first | (exfalso; simp at h; done) | omega
  · intro h
    rw [if_neg (by omega), if_neg (by omega), if_neg (by omega), if_neg (by omega), if_neg (by omega), if_neg (by omega)]
    rfl
theorem okD_nan {t0 t1 k i : Int} {t : ByteArray} (h : ofB t0 t1 ⟨k, i, t⟩ = true) : k = t0 ∧ (okD k i t = false ↔ nanV ⟨k, i, t⟩ = true) := by
  have e := of_val t0 t1 ⟨k, i, t⟩
  rw [h] at e
  have hk : k = t0 ∧ datum_fine.v k i t = true := by
    unfold datum_Of.f at e
    cases hf : datum_fine.v k i t with
    | true =>
      refine ⟨?_, rfl⟩
      by_cases hk : k = t0
      · exact hk
      · exfalso
        have e2 : datum_fine.f k i t = some true := congrArg some hf
        have e1 : datum_Check.f t0 t1 = some (datum_Check.v t0 t1) := rfl
        rw [e1, e2] at e
        simp [hk] at e
    | false =>
      have e2 : datum_fine.f k i t = some false := congrArg some hf
      have e1 : datum_Check.f t0 t1 = some (datum_Check.v t0 t1) := rfl
      rw [e1, e2] at e
      simp at e
  refine ⟨hk.1, ?_⟩
  unfold okD nanV
  rw [hk.2, Bool.true_and]
  simp
theorem may_f (op k i : Int) (t : ByteArray) (t0 t1 rows n : Int) (has : Bool) (least most : ByteArray) (hl : least.size ≤ 140737488351232) (hm : most.size ≤ 140737488351232) :
    ranges_May.f op k i t t0 t1 rows n has least most = some (mayV op k i t t0 t1 rows n has least most) := by
  unfold ranges_May.f mayV
  rw [check_f _ _ _ _ _ _ hl hm, ends_f _ _ _ _ _ _ hl hm]
  simp only [Option.bind_some, cmp_f]
  by_cases h1 : checkV t0 t1 n has least most ≠ 0
  · rw [if_pos h1, if_pos h1]
  rw [if_neg h1, if_neg h1]
  by_cases h2 : rows < 0
  · rw [if_pos h2, if_pos h2]
  rw [if_neg h2, if_neg h2]
  by_cases h3 : op = 4
  · rw [if_pos h3, if_pos h3]
  rw [if_neg h3, if_neg h3]
  by_cases h4 : op = 5
  · rw [if_pos h4, if_pos h4]
  rw [if_neg h4, if_neg h4]
  by_cases h5 : op < 6 ∨ op > 11
  · rw [if_pos h5, if_pos ((fOf_some op).2 h5)]
  rw [if_neg h5, if_neg (fun h => h5 ((fOf_some op).1 h))]
  by_cases h6 : ofB t0 t1 ⟨k, i, t⟩ = false
  · rw [if_pos h6, if_pos h6]
  rw [if_neg h6, if_neg h6]
  have hn := (okD_nan (by simpa using h6)).2
  by_cases h7 : okD k i t = false
  · rw [if_pos (hn.1 h7), if_pos h7]
  rw [if_neg (fun h => h7 (hn.2 h)), if_neg h7]
  repeat' split
  all_goals rfl
end Go.Proofs.Ytncehlbhjoejhaa.RngOrd
end
