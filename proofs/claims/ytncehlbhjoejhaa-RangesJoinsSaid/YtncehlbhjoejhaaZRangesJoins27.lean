/- Texts of the claim, packed: RngOrd, RngSnd, RngOf. -/
import Derived.Test.YtncehlbhjoejhaaZRangesJoins4
import Derived.Test.YtncehlbhjoejhaaZRangesJoins5
import Derived.Test.YtncehlbhjoejhaaZRangesJoins6
import Derived.Test.YtncehlbhjoejhaaZRangesJoins9
import Derived.Test.YtncehlbhjoejhaaZRangesJoins10
import Derived.Test.YtncehlbhjoejhaaZRangesJoins12
import Derived.Test.YtncehlbhjoejhaaZRangesJoins14
import Derived.Test.YtncehlbhjoejhaaZRangesJoins15
import Derived.Test.YtncehlbhjoejhaaZRangesJoins16
import Derived.Test.YtncehlbhjoejhaaZRangesJoins17
import Derived.Test.YtncehlbhjoejhaaZRangesJoins18
import Derived.Test.YtncehlbhjoejhaaZRangesJoins21
import Derived.Test.YtncehlbhjoejhaaZRangesJoins22
import Derived.Test.YtncehlbhjoejhaaZRangesJoins26
section
namespace Go.Proofs.Ytncehlbhjoejhaa.RngOrd
open Go.RowKit Go.Proofs.YtncehlbhjoejhaaW.PrintWords Go.Proofs.YtncehlbhjoejhaaW.PrintLast Go.Proofs.YtncehlbhjoejhaaW.PrintMore Go.Proofs.Ytncehlbhjoejhaa.H Go.Proofs.Ytncehlbhjoejhaa.DatAid Go.Proofs.Ytncehlbhjoejhaa.RngAid Go.Proofs.Ytncehlbhjoejhaa.CmpAid Go.Proofs.YtncehlbhjoejhaaF
set_option linter.unusedVariables false
set_option linter.unusedSimpArgs false
theorem int_f (a b : Int) : datum_order_int64.f a b = some (if a < b then -1 else if a > b then 1 else 0, true) := by
 unfold datum_order_int64.f cmp_Compare_int64.f cmp_isNaN_int64.f
 have h1 : (a != a) = false := by simp
 have h2 : (b != b) = false := by simp
 simp only [h1, h2]
 by_cases h : a < b
 ·simp [h]
 ·by_cases h' : a > b
  ·simp [h, h']
  ·simp [h, h']
def okD (k i : Int) (t : ByteArray) : Bool := datum_fine.v k i t && !(isReal k i t && nanD k i)
def kc (k i1 : Int) (t1 : ByteArray) (i2 : Int) (t2 : ByteArray) : Int :=
 if k = 4 ∨ k = 5 then fcmpI (rbits k i1) (rbits k i2) else if k = 6 ∨ k = 7 then sc t1.toList t2.toList else if i1 < i2 then -1 else if i1 > i2 then 1 else 0
def cv (k1 i1 : Int) (t1 : ByteArray) (k2 i2 : Int) (t2 : ByteArray) : Int × Bool := if okD k1 i1 t1 = true ∧ okD k2 i2 t2 = true ∧ k1 = k2 then (kc k1 i1 t1 i2 t2, true) else (0, false)
theorem cmp_f (k1 i1 : Int) (t1 : ByteArray) (k2 i2 : Int) (t2 : ByteArray) : datum_Compare.f k1 i1 t1 k2 i2 t2 = some (cv k1 i1 t1 k2 i2 t2) := by
 unfold datum_Compare.f cv okD kc
 rw [int_f]
 cases datum_fine.v k1 i1 t1 <;> cases datum_fine.v k2 i2 t2 <;> cases (isReal k1 i1 t1 && nanD k1 i1) <;> cases (isReal k2 i2 t2 && nanD k2 i2) <;> by_cases hk : k1 = k2 <;> simp [hk]
 subst hk
 by_cases h45 : k1 = 4 ∨ k1 = 5
 ·simp [h45]
 ·rw [if_neg h45, if_neg h45]
  by_cases h67 : k1 = 6 ∨ k1 = 7
  ·rw [if_pos h67, if_pos h67, ← strI_sc]; rfl
  ·rw [if_neg h67, if_neg h67]
theorem okD_num {k i : Int} {t : ByteArray} (h : okD k i t = true) (h45 : k = 4 ∨ k = 5) : (Ieee.double.read (rbits k i)).isNaN = false := by
 unfold okD at h
 rw [Bool.and_eq_true] at h
 have hr : isReal k i t = true := by unfold isReal; rw [h.1]; simpa using h45
 rw [hr] at h
 exact rbits_num k i (by simpa using h.2)
theorem fI_le {x y : Nat} (hx : (Ieee.double.read x).isNaN = false) (hy : (Ieee.double.read y).isNaN = false) : (fcmpI x y ≤ 0 ↔ FloatKind.f64.format.order x y ≠ some .gt) ∧ (fcmpI x y < 0 ↔ FloatKind.f64.format.order x y = some .lt) ∧ -1 ≤ fcmpI x y ∧ fcmpI x y ≤ 1 := by
 obtain ⟨o, ho⟩ := order_num hx hy
 unfold fcmpI
 rw [ho]
 cases o <;> simp [ordInt]
theorem fI_swap {x y : Nat} (hx : (Ieee.double.read x).isNaN = false) (hy : (Ieee.double.read y).isNaN = false) : fcmpI y x = - fcmpI x y := by
 have h : FloatKind.f64.format.order y x = (FloatKind.f64.format.order x y).map Ordering.swap := order_swap _ _ (nanIs hx) (nanIs hy)
 obtain ⟨o, ho⟩ := order_num hx hy
 unfold fcmpI
 rw [h, ho]
 cases o <;> rfl
theorem kc_swap {k i1 i2 : Int} {t1 t2 : ByteArray} (h1 : okD k i1 t1 = true) (h2 : okD k i2 t2 = true) : kc k i1 t1 i2 t2 = - kc k i2 t2 i1 t1 := by
 unfold kc
 by_cases h45 : k = 4 ∨ k = 5
 ·rw [if_pos h45, if_pos h45]; exact fI_swap (okD_num h2 h45) (okD_num h1 h45)
 ·rw [if_neg h45, if_neg h45]
  by_cases h67 : k = 6 ∨ k = 7
  ·rw [if_pos h67, if_pos h67]; exact sc_swap _ _
  ·rw [if_neg h67, if_neg h67]
   by_cases a : i1 < i2
   ·rw [if_pos a, if_neg (by omega), if_pos a]
   ·by_cases b : i2 < i1
    ·rw [if_neg a, if_pos b, if_pos b]; rfl
    ·rw [if_neg a, if_neg b, if_neg b, if_neg a]; rfl
theorem kc_trans {k i1 i2 i3 : Int} {t1 t2 t3 : ByteArray} (h1 : okD k i1 t1 = true) (h2 : okD k i2 t2 = true) (h3 : okD k i3 t3 = true) :
  (kc k i1 t1 i2 t2 ≤ 0 → kc k i2 t2 i3 t3 ≤ 0 → kc k i1 t1 i3 t3 ≤ 0) ∧ (kc k i1 t1 i2 t2 < 0 → kc k i2 t2 i3 t3 ≤ 0 → kc k i1 t1 i3 t3 < 0) := by
 unfold kc
 by_cases h45 : k = 4 ∨ k = 5
 ·simp only [if_pos h45]
  have n1 := okD_num h1 h45
  have n2 := okD_num h2 h45
  have n3 := okD_num h3 h45
  rw [(fI_le n1 n2).1, (fI_le n2 n3).1, (fI_le n1 n3).1, (fI_le n1 n2).2.1, (fI_le n1 n3).2.1]
  exact ⟨fun a b => order_le_trans _ _ _ (nanIs n1) (nanIs n2) (nanIs n3) a b, fun a b => order_lt_trans _ _ _ (nanIs n1) (nanIs n2) (nanIs n3) a b⟩
 ·simp only [if_neg h45]
  by_cases h67 : k = 6 ∨ k = 7
  ·simp only [if_pos h67]; exact sc_trans _ _ _
  ·simp only [if_neg h67]
   refine ⟨fun a b => ?_, fun a b => ?_⟩
   ·by_cases p : i1 < i3
    ·rw [if_pos p]; omega
    ·by_cases q : i1 > i3
     ·exfalso
      by_cases u : i1 > i2
      ·rw [if_neg (by omega), if_pos u] at a; omega
      ·by_cases v : i2 > i3
       ·rw [if_neg (by omega), if_pos v] at b; omega
       ·omega
     ·rw [if_neg p, if_neg q]; omega
   ·have e : i1 < i2 := by
     by_cases u : i1 < i2
     ·exact u
     ·rw [if_neg u] at a
      split at a <;> omega
    have e2 : ¬ i2 > i3 := by
     intro v
     rw [if_neg (by omega), if_pos v] at b
     omega
    rw [if_pos (by omega)]; omega
theorem wrap_next (i : Nat) (h : i < 1000000000000000) : wrap64 ((i : Int) + 1) = ((i + 1 : Nat) : Int) := by
 unfold wrap64
 omega
theorem toList_len (a : ByteArray) : a.toList.length = a.size := by rw [Lib.toList_data, data_length]
theorem bt_get (a : ByteArray) (i : Nat) (h : i < a.size) (h' : i < a.toList.length) : bt a (i : Int) = ((a.toList[i]).toNat : Int) := by
 unfold bt
 rw [dif_pos (show ((i : Int)).toNat < a.size by omega)]
 simp only [Lib.toList_data]
 rfl
theorem texts_loop (a b : ByteArray) (ha : a.size ≤ 140737488351232) : ∀ d i K : Nat, a.size = i + d → i ≤ b.size → 2 * d + 2 < K → marquetryref09_Texts.l0 K a b (i : Int) = some (sc (a.toList.drop i) (b.toList.drop i)) := by
 intro d
 induction d with
 | zero =>
  intro i K hi hb hK
  obtain ⟨K', rfl⟩ : ∃ K', K = K' + 2 := ⟨K - 2, by omega⟩
  simp only [marquetryref09_Texts.l0, marquetryref09_Texts.j1]
  rw [if_neg (by omega : ¬ (i : Int) < (a.size : Int)), if_neg (by decide)]
  have e1 : a.toList.drop i = [] := List.drop_eq_nil_of_le (by rw [toList_len]; omega)
  rw [e1]
  by_cases h : i < b.size
  ·rw [if_pos (by omega), List.drop_eq_getElem_cons (by rw [toList_len]; exact h)]
   rfl
  ·rw [if_neg (by omega), if_neg (by omega), List.drop_eq_nil_of_le (by rw [toList_len]; omega)]
   rfl
 | succ d ih =>
  intro i K hi hb hK
  obtain ⟨K', rfl⟩ : ∃ K', K = K' + 2 := ⟨K - 2, by omega⟩
  have hia : i < a.toList.length := by rw [toList_len]; omega
  simp only [marquetryref09_Texts.l0, marquetryref09_Texts.j1]
  rw [if_pos (by omega : (i : Int) < (a.size : Int)), List.drop_eq_getElem_cons hia]
  by_cases h : i < b.size
  ·have hib : i < b.toList.length := by rw [toList_len]; exact h
   rw [decide_eq_true (by omega : (i : Int) < (b.size : Int)), if_pos rfl, if_pos (by omega : 0 ≤ (i : Int)), if_pos (by omega : (i : Int) < (a.size : Int)), if_pos (by omega : (i : Int) < (b.size : Int)), wrap_next i (by omega), ih (i + 1) K' (by omega) (by omega) (by omega), List.drop_eq_getElem_cons hib, bt_get a i (by omega) hia, bt_get b i h hib]
   simp only [sc]
   have t : ∀ x y : UInt8, (x < y) ↔ x.toNat < y.toNat := fun x y => Iff.rfl
   by_cases h1 : (a.toList[i]).toNat < (b.toList[i]).toNat
   ·rw [if_pos (by omega), if_pos ((t _ _).2 h1)]
   ·rw [if_neg (by omega), if_neg (fun h => h1 ((t _ _).1 h))]
    by_cases h2 : (b.toList[i]).toNat < (a.toList[i]).toNat
    ·rw [if_pos (by omega), if_pos ((t _ _).2 h2)]
    ·rw [if_neg (by omega), if_neg (fun h => h2 ((t _ _).1 h))]
  ·rw [decide_eq_false (by omega : ¬ (i : Int) < (b.size : Int)), if_neg (by decide), if_neg (by omega), if_pos (by omega), List.drop_eq_nil_of_le (by rw [toList_len]; omega : b.toList.length ≤ i)]
   rfl
theorem texts (a b : ByteArray) (ha : a.size ≤ 140737488351232) : marquetryref09_Texts.f (2 * a.size + 3) a b = some (strI a.toList b.toList) := by
 rw [strI_sc]
 exact texts_loop a b ha a.size 0 _ (by omega) (by omega) (by omega)
theorem cmp_same (k1 i1 : Int) (t1 : ByteArray) (k2 i2 : Int) (t2 : ByteArray) (r1 : inR i1) (r2 : inR i2) (ht1 : t1.size ≤ 140737488351232) : marquetryref09_Compare.f (2 * t1.size + 3) k1 i1 t1 k2 i2 t2 = some (cv k1 i1 t1 k2 i2 t2) := by
 have e : ∃ v, datum_Compare.f k1 i1 t1 k2 i2 t2 = some v ∧ marquetryref09_Compare.f (2 * t1.size + 3) k1 i1 t1 k2 i2 t2 = some v := by
  have er : marquetryref09_Compare.f (2 * t1.size + 3) k1 i1 t1 k2 i2 t2 = refCmp (marquetryref09_Texts.f (2 * t1.size + 3) t1 t2) k1 i1 t1 k2 i2 t2 := by
   unfold marquetryref09_Compare.f
   rw [if_pos ⟨r1, r2⟩]
  rw [er]
  unfold datum_Compare.f refCmp
  by_cases h : datum_fine.v k1 i1 t1 = false ∨ datum_fine.v k2 i2 t2 = false ∨ k1 ≠ k2
  ·rw [if_pos h, if_pos (h.elim Or.inl (fun h => h.elim (fun h => Or.inr (Or.inl h)) (fun h => Or.inr (Or.inr (Or.inl h)))))]
   exact ⟨_, rfl, rfl⟩
  ·have hf1 : datum_fine.v k1 i1 t1 = true := by
    cases hq : datum_fine.v k1 i1 t1 with
    | true => rfl
    | false => exact absurd (Or.inl hq) h
   have hf2 : datum_fine.v k2 i2 t2 = true := by
    cases hq : datum_fine.v k2 i2 t2 with
    | true => rfl
    | false => exact absurd (Or.inr (Or.inl hq)) h
   have hk : k1 = k2 := by
    by_cases hq : k1 = k2
    ·exact hq
    ·exact absurd (Or.inr (Or.inr hq)) h
   subst hk
   rw [if_neg (show ¬ (datum_fine.v k1 i1 t1 = false ∨ datum_fine.v k1 i2 t2 = false ∨ k1 ≠ k1) from h)]
   have hR1 : isReal k1 i1 t1 = (decide (k1 = 4) || decide (k1 = 5)) := by unfold isReal; rw [hf1, Bool.true_and]
   have hR2 : isReal k1 i2 t2 = (decide (k1 = 4) || decide (k1 = 5)) := by unfold isReal; rw [hf2, Bool.true_and]
   rw [hR1, hR2, hf1, hf2]
   by_cases h45 : k1 = 4 ∨ k1 = 5
   ·have h67 : ¬ (k1 = 6 ∨ k1 = 7) := by omega
    have hd : (decide (k1 = 4) || decide (k1 = 5)) = true := by simpa using h45
    rw [hd]
    by_cases hn : nanD k1 i1 = true ∨ nanD k1 i2 = true
    ·exact ⟨(0, false), by rw [if_pos (by rcases hn with hn | hn <;> simp [hn])], by rw [if_neg h67, if_pos h45, if_pos hn]⟩
    ·exact ⟨(fcmpI (rbits k1 i1) (rbits k1 i2), true), by rw [if_neg (by simp at hn ⊢; exact hn), if_pos h45], by rw [if_neg h67, if_pos h45, if_neg hn]⟩
   ·have hd : (decide (k1 = 4) || decide (k1 = 5)) = false := by simpa using h45
    rw [hd]
    by_cases h67 : k1 = 6 ∨ k1 = 7
    ·exact ⟨(strI t1.toList t2.toList, true), by rw [if_neg (by simp), if_neg h45, if_pos h67]; rfl, by rw [if_pos h67, texts t1 t2 ht1]; rfl⟩
    ·exact ⟨_, by rw [if_neg (by simp), if_neg h45, if_neg h67, int_f], by rw [if_neg h67, if_neg h45]⟩
 obtain ⟨v, e1, e2⟩ := e
 rw [cmp_f] at e1
 rw [e2, ← e1]
theorem upTo {α : Type} {f : Nat → Option α} (h : ∀ k, LeO (f k) (f (k + 1))) {a : Nat} {r : α} (e : f a = some r) {n : Nat} (hn : a ≤ n) : f n = some r := by
 have := up h e (n - a)
 rwa [show a + (n - a) = n by omega] at this
theorem cmp_at (k1 i1 : Int) (t1 : ByteArray) (k2 i2 : Int) (t2 : ByteArray) (r1 : inR i1) (r2 : inR i2) {n : Nat} (hn : 20003 ≤ n) (ht1 : t1.size ≤ 10000) : marquetryref09_Compare.f n k1 i1 t1 k2 i2 t2 = some (cv k1 i1 t1 k2 i2 t2) :=
 upTo (f := fun n => marquetryref09_Compare.f n k1 i1 t1 k2 i2 t2) (fun n => marquetryref09_Compare.mono _ _ _ _ _ _ n) (cmp_same k1 i1 t1 k2 i2 t2 r1 r2 (by omega)) (by omega)
def readV (t0 t1 : Int) (s : ByteArray) : Int × Int × ByteArray × Int :=
 if datum_Check.v t0 t1 ≠ 0 then (0, 0, ⟨#[]⟩, 2)
 else if wideI t0 = 0 then (if ofB t0 t1 ⟨t0, 0, s⟩ = true then (t0, 0, s, 0) else (0, 0, ⟨#[]⟩, 320))
 else if wideI t0 ≠ (s.size : Int) then (0, 0, ⟨#[]⟩, 320)
 else if ofB t0 t1 ⟨t0, readI t0 s, ⟨#[]⟩⟩ = true then (t0, readI t0 s, ⟨#[]⟩, 0) else (0, 0, ⟨#[]⟩, 320)
theorem read_f (t0 t1 : Int) (s : ByteArray) (hs : s.size ≤ 140737488351232) : ranges_Read.f t0 t1 s = some (readV t0 t1 s) := by
 unfold ranges_Read.f readV
 rw [if_pos hs]
 repeat' split
 all_goals first | rfl | contradiction
theorem readI_range (k : Int) (s : ByteArray) : inR (readI k s) := by
 unfold readI inR
 split
 ·rw [IntKind.wrap_i32]; omega
 ·rw [IntKind.wrap_i64]; omega
theorem readV_range (t0 t1 : Int) (s : ByteArray) : inR (readV t0 t1 s).2.1 ∧ (readV t0 t1 s).2.2.1.size ≤ s.size := by
 have h0 : inR 0 := by unfold inR; omega
 have he : (⟨#[]⟩ : ByteArray).size ≤ s.size := Nat.zero_le _
 unfold readV
 repeat' split
 all_goals first | exact ⟨h0, he⟩ | exact ⟨h0, Nat.le_refl _⟩ | exact ⟨readI_range _ _, he⟩
theorem readV_ok {t0 t1 : Int} {s : ByteArray} (h : (readV t0 t1 s).2.2.2 = 0) : (readV t0 t1 s).1 = t0 ∧ ofB t0 t1 ⟨t0, (readV t0 t1 s).2.1, (readV t0 t1 s).2.2.1⟩ = true := by
 unfold readV at h ⊢
 repeat' split
 all_goals first | exact ⟨rfl, by assumption⟩ | (exfalso; simp_all; done)
theorem refCheck_at (t0 t1 : Int) {n : Nat} (hn : 1 ≤ n) : marquetryref09_Check.f n t0 t1 = some (decide (datum_Check.v t0 t1 = 0)) :=
 upTo (f := fun n => marquetryref09_Check.f n t0 t1) (fun n => marquetryref09_Check.mono _ _ n) (ref_check t0 t1) hn
theorem refRead_at (t0 t1 : Int) (s : ByteArray) (hs : s.size ≤ 10000) {n : Nat} (hn : 16 ≤ n) : marquetryref22_Read.f n t0 t1 s = some (readV t0 t1 s) :=
 upTo (f := fun n => marquetryref22_Read.f n t0 t1 s) (fun n => marquetryref22_Read.mono _ _ _ n) ((read_same t0 t1 s hs).trans (read_f t0 t1 s (by omega))) hn
theorem refOf_at (k i : Int) (t : ByteArray) (t0 t1 : Int) (hi : inR i) {n : Nat} (hn : 1 ≤ n) : marquetryref09_Of.f n k i t t0 t1 = some (ofB t0 t1 ⟨k, i, t⟩) :=
 upTo (f := fun n => marquetryref09_Of.f n k i t t0 t1) (fun n => marquetryref09_Of.mono _ _ _ _ _ n) ((ref_of k i t t0 t1 hi).trans (of_val t0 t1 ⟨k, i, t⟩)) hn
theorem refLay_at (k i : Int) (t : ByteArray) (hi : inR i) {n : Nat} (hn : 13 ≤ n) : marquetryref22_Lay.f n k i t = some (layV k i t) :=
 upTo (f := fun n => marquetryref22_Lay.f n k i t) (fun n => marquetryref22_Lay.mono _ _ _ n) (ref_lay k i t hi) hn
theorem zero_2 (k i : Int) (t : ByteArray) (m : Bool) : marquetryref22_zero.f 2 k i t m = some (k, zI (signOf k) m i, t) := by
 unfold marquetryref22_zero.f
 simp only [marquetryref22_zero.j0, marquetryref22_zero.j1, marquetryref22_floats.f]
 unfold signOf zI
 by_cases h5 : k = 5
 ·subst h5
  by_cases h0 : i = 0
  ·subst h0; cases m <;> simp
  ·by_cases hs : i = -9223372036854775808
   ·subst hs; cases m <;> simp
   ·cases m <;> simp [h0, hs]
 ·by_cases h4 : k = 4
  ·subst h4
   by_cases h0 : i = 0
   ·subst h0; cases m <;> simp
   ·by_cases hs : i = 2147483648
    ·subst hs; cases m <;> simp
    ·cases m <;> simp [h0, hs]
  ·cases m <;> simp [h4, h5]
theorem zero_at (k i : Int) (t : ByteArray) (m : Bool) {n : Nat} (hn : 2 ≤ n) : marquetryref22_zero.f n k i t m = some (k, zI (signOf k) m i, t) :=
 upTo (f := fun n => marquetryref22_zero.f n k i t m) (fun n => marquetryref22_zero.mono _ _ _ _ n) (zero_2 k i t m) hn
def endsV (t0 t1 : Int) (least most : ByteArray) : Bool :=
 decide ((readV t0 t1 least).2.2.2 = 0) && (decide ((readV t0 t1 most).2.2.2 = 0) && ((cv t0 (readV t0 t1 least).2.1 (readV t0 t1 least).2.2.1 t0 (readV t0 t1 most).2.1 (readV t0 t1 most).2.2.1).2 && (decide ((cv t0 (readV t0 t1 least).2.1 (readV t0 t1 least).2.2.1 t0 (readV t0 t1 most).2.1 (readV t0 t1 most).2.2.1).1 ≤ 0) && (decide (zI (signOf t0) true (readV t0 t1 least).2.1 = (readV t0 t1 least).2.1) && decide (zI (signOf t0) false (readV t0 t1 most).2.1 = (readV t0 t1 most).2.1)))))
theorem ends_f (t0 t1 n : Int) (has : Bool) (least most : ByteArray) (hl : least.size ≤ 140737488351232) (hm : most.size ≤ 140737488351232) :
  ranges_ends.f t0 t1 n has least most = some ((readV t0 t1 least).1, (readV t0 t1 least).2.1, (readV t0 t1 least).2.2.1, (readV t0 t1 most).1, (readV t0 t1 most).2.1, (readV t0 t1 most).2.2.1, endsV t0 t1 least most) := by
 unfold ranges_ends.f endsV
 rw [read_f _ _ _ hl, read_f _ _ _ hm]
 simp only [Option.bind_some]
 by_cases h1 : (readV t0 t1 least).2.2.2 = 0
 ·by_cases h2 : (readV t0 t1 most).2.2.2 = 0
  ·rw [if_neg (by rw [h1, h2]; simp), cmp_f]
   simp only [Option.bind_some]
   rw [(readV_ok h1).1, (readV_ok h2).1]
   simp only [h1, h2, decide_true, Bool.true_and, Bool.and_assoc]
  ·rw [if_pos (.inr h2)]
   simp [h2]
 ·rw [if_pos (.inl h1)]
  simp [h1]
def checkV (t0 t1 n : Int) (has : Bool) (least most : ByteArray) : Int :=
 if datum_Check.v t0 t1 ≠ 0 then 2
 else if n < 0 ∨ n > 65536 then 320
 else if has = true then (if endsV t0 t1 least most = true then 0 else 320)
 else if least.toList = [] ∧ most.toList = [] then 0 else 320
theorem check_f (t0 t1 n : Int) (has : Bool) (least most : ByteArray) (hl : least.size ≤ 140737488351232) (hm : most.size ≤ 140737488351232) :
  ranges_Check.f t0 t1 n has least most = some (checkV t0 t1 n has least most) := by
 unfold ranges_Check.f checkV
 have e1 : datum_Check.f t0 t1 = some (datum_Check.v t0 t1) := rfl
 rw [e1, ends_f _ _ _ _ _ _ hl hm]
 simp only [Option.bind_some]
 by_cases hc : datum_Check.v t0 t1 = 0
 ·rw [if_pos hc, if_neg (not_not_intro hc)]
  cases has with
  | true =>
   simp only [if_true]
   by_cases he : endsV t0 t1 least most = true
   ·rw [if_pos he, if_pos he]
    by_cases h0 : n < 0
    ·rw [if_pos h0, if_pos (.inl h0)]
    ·by_cases h6 : n > 65536
     ·rw [if_neg h0, if_pos h6, if_pos (.inr h6)]
     ·rw [if_neg h0, if_neg h6, if_neg (by omega)]
   ·rw [if_neg he, if_neg he]
    split <;> rfl
  | false =>
   have h2 : ((!false && (least.toList == ([] : List UInt8) && (most.toList == ([] : List UInt8)))) = true) ↔ (least.toList = [] ∧ most.toList = []) := by simp
   have hf : ¬ (false = true) := by decide
   rw [if_neg hf, if_neg hf]
   by_cases he : least.toList = [] ∧ most.toList = []
   ·rw [if_pos (h2.2 he), if_pos he]
    by_cases h0 : n < 0
    ·rw [if_pos h0, if_pos (.inl h0)]
    ·by_cases h6 : n > 65536
     ·rw [if_neg h0, if_pos h6, if_pos (.inr h6)]
     ·rw [if_neg h0, if_neg h6, if_neg (by omega)]
   ·rw [if_neg (fun h => he (h2.1 h)), if_neg he]
    split <;> rfl
 ·rw [if_neg hc, if_pos hc]
theorem refCheck_e (t0 t1 : Int) (least most : ByteArray) (hl : least.size ≤ 10000) (hm : most.size ≤ 10000) :
  marquetryref22_Check.e 20005 t0 t1 least most = some (if endsV t0 t1 least most = true then 0 else 320) := by
 unfold marquetryref22_Check.e
 rw [refRead_at _ _ _ hl (by decide), refRead_at _ _ _ hm (by decide)]
 simp only [Option.bind_some]
 have r1 := readV_range t0 t1 least
 have r2 := readV_range t0 t1 most
 rw [cmp_at _ _ _ _ _ _ r1.1 r2.1 (by decide) (by omega)]
 simp only [Option.bind_some]
 by_cases h1 : (readV t0 t1 least).2.2.2 = 0
 ·by_cases h2 : (readV t0 t1 most).2.2.2 = 0
  ·rw [if_neg (not_not_intro h1), if_neg (not_not_intro h2), (readV_ok h1).1, (readV_ok h2).1]
   unfold marquetryref22_Check.g
   rw [zero_at _ _ _ _ (by decide), zero_at _ _ _ _ (by decide)]
   simp only [Option.bind_some]
   unfold endsV
   rw [h1, h2]
   generalize cv t0 (readV t0 t1 least).2.1 (readV t0 t1 least).2.2.1 t0 (readV t0 t1 most).2.1 (readV t0 t1 most).2.2.1 = c
   obtain ⟨c1, c2⟩ := c
   cases c2 with
   | false => simp
   | true =>
    by_cases hp : c1 > 0
    ·have hp2 : ¬ c1 ≤ 0 := by omega
     simp [hp, hp2]
    ·have hp2 : c1 ≤ 0 := by omega
     by_cases z1 : zI (signOf t0) true (readV t0 t1 least).2.1 = (readV t0 t1 least).2.1
     ·by_cases z2 : zI (signOf t0) false (readV t0 t1 most).2.1 = (readV t0 t1 most).2.1
      ·simp [hp, hp2, z1, z2]
      ·simp [hp, hp2, z1, z2]
     ·simp [hp, hp2, z1]
  ·rw [if_neg (not_not_intro h1), if_pos h2]
   unfold endsV
   simp [h2]
 ·rw [if_pos h1]
  unfold endsV
  simp [h1]
theorem refCheck22 (t0 t1 n : Int) (has : Bool) (least most : ByteArray) (hl : least.size ≤ 10000) (hm : most.size ≤ 10000) :
  marquetryref22_Check.f 20005 t0 t1 n has least most = some (checkV t0 t1 n has least most) := by
 unfold marquetryref22_Check.f checkV
 rw [refCheck_at _ _ (by decide)]
 simp only [Option.bind_some]
 by_cases hc : datum_Check.v t0 t1 = 0
 ·rw [decide_eq_true hc, if_neg (by decide), if_neg (not_not_intro hc)]
  by_cases h0 : n < 0
  ·rw [if_pos h0, if_pos (.inl h0)]
  ·by_cases h6 : n > 65536
   ·rw [if_neg h0, if_pos h6, if_pos (.inr h6)]
   ·rw [if_neg h0, if_neg h6, if_neg (show ¬ (n < 0 ∨ n > 65536) by omega)]
    cases has with
    | true => rw [if_neg (show ¬ (true = false) by decide), if_pos (rfl : true = true), refCheck_e _ _ _ _ hl hm]
    | false =>
     rw [if_pos (rfl : false = false), if_neg (show ¬ (false = true) by decide)]
     by_cases h1 : least.toList = []
     ·by_cases h2 : most.toList = []
      ·rw [if_pos h1, if_pos h2, if_pos ⟨h1, h2⟩]
      ·rw [if_pos h1, if_neg h2, if_neg (fun h => h2 h.2)]
     ·rw [if_neg h1, if_neg (fun h => h1 h.1)]
 ·rw [decide_eq_false hc, if_pos rfl, if_pos hc]
theorem refCheck22_at (t0 t1 n : Int) (has : Bool) (least most : ByteArray) (hl : least.size ≤ 10000) (hm : most.size ≤ 10000) {k : Nat} (hk : 20005 ≤ k) :
  marquetryref22_Check.f k t0 t1 n has least most = some (checkV t0 t1 n has least most) :=
 upTo (f := fun k => marquetryref22_Check.f k t0 t1 n has least most) (fun k => marquetryref22_Check.mono _ _ _ _ _ _ k) (refCheck22 t0 t1 n has least most hl hm) hk
theorem okD_nan {t0 t1 k i : Int} {t : ByteArray} (h : ofB t0 t1 ⟨k, i, t⟩ = true) : k = t0 ∧ (okD k i t = false ↔ nanV ⟨k, i, t⟩ = true) := by
 have e := of_val t0 t1 ⟨k, i, t⟩
 rw [h] at e
 have hk : k = t0 ∧ datum_fine.v k i t = true := by
  unfold datum_Of.f at e
  cases hf : datum_fine.v k i t with
  | true =>
   refine ⟨?_, rfl⟩
   by_cases hk : k = t0
   ·exact hk
   ·exfalso
    have e2 : datum_fine.f k i t = some true := congrArg some hf
    have e1 : datum_Check.f t0 t1 = some (datum_Check.v t0 t1) := rfl
    rw [e1, e2] at e
    simp [hk] at e
  | false =>
   have e2 : datum_fine.f k i t = some false := congrArg some hf
   have e1 : datum_Check.f t0 t1 = some (datum_Check.v t0 t1) := rfl
   rw [e1, e2] at e
   simp at e
 refine ⟨hk.1, ?_⟩
 unfold okD nanV
 rw [hk.2, Bool.true_and]
 simp
end Go.Proofs.Ytncehlbhjoejhaa.RngOrd
end
section
namespace Go.Proofs.Ytncehlbhjoejhaa.RngSnd
open Go.RowKit Go.Proofs.YtncehlbhjoejhaaW.PrintWords Go.Proofs.YtncehlbhjoejhaaW.PrintLast Go.Proofs.YtncehlbhjoejhaaW.PrintMore Go.Proofs.Ytncehlbhjoejhaa.H Go.Proofs.Ytncehlbhjoejhaa.DatAid Go.Proofs.Ytncehlbhjoejhaa.RngAid Go.Proofs.Ytncehlbhjoejhaa.CmpAid Go.Proofs.Ytncehlbhjoejhaa.RngOrd Go.Proofs.YtncehlbhjoejhaaF
set_option linter.unusedVariables false
set_option linter.unusedSimpArgs false
theorem ofB_iff (t0 t1 k i : Int) (t : ByteArray) : ofB t0 t1 ⟨k, i, t⟩ = true ↔ (datum_Check.v t0 t1 = 0 ∧ datum_fine.v k i t = true ∧ k = t0 ∧ (t0 = 7 → (t.size : Int) = t1)) := by
 have e := of_val t0 t1 ⟨k, i, t⟩
 unfold datum_Of.f at e
 have e1 : datum_Check.f t0 t1 = some (datum_Check.v t0 t1) := rfl
 have e2 : datum_fine.f k i t = some (datum_fine.v k i t) := rfl
 rw [e1, e2] at e
 simp only [Option.bind_some] at e
 by_cases hc : datum_Check.v t0 t1 = 0
 ·rw [if_pos hc] at e
  cases hf : datum_fine.v k i t with
  | false => rw [hf, if_neg (by decide)] at e; have e3 := Option.some.inj e; rw [← e3]; simp
  | true =>
   rw [hf, if_pos rfl] at e
   by_cases hk : k = t0
   ·rw [if_pos hk] at e
    by_cases h7 : t0 = 7
    ·rw [if_pos h7] at e
     have e3 := Option.some.inj e
     rw [← e3]
     have hc' := hc
     rw [h7] at hc'
     simp [hc, hc', hk, h7]
    ·rw [if_neg h7] at e
     have e3 := Option.some.inj e
     rw [← e3]
     simp [hc, hk, h7]
   ·rw [if_neg hk] at e
    have e3 := Option.some.inj e
    rw [← e3]
    simp [hk]
 ·rw [if_neg hc] at e
  have e3 := Option.some.inj e
  rw [← e3]
  simp [hc]
theorem fine_range {k i : Int} {t : ByteArray} (h : datum_fine.v k i t = true) :
  (k = 0 → 0 ≤ i ∧ i ≤ 1) ∧ (k = 1 → -2147483648 ≤ i ∧ i ≤ 2147483647) ∧ (k = 2 ∨ k = 5 → -9223372036854775808 ≤ i ∧ i ≤ 9223372036854775807) ∧ (k = 4 → 0 ≤ i ∧ i ≤ 4294967295) ∧ (k = 6 ∨ k = 7 → i = 0) ∧ (k ≠ 6 → k ≠ 7 → t.toList = []) := by
 have hk := fine_kind h
 unfold datum_fine.v at h
 rcases hk with rfl | rfl | rfl | rfl | rfl | rfl | rfl
 all_goals
  simp [kOf] at h ⊢
  try omega
 all_goals first | exact ⟨by omega, h.2.2.1⟩ | (refine ⟨?_, ?_⟩ <;> omega) | omega | skip
theorem nil_eq {t : ByteArray} (h : t.toList = []) : t = ⟨#[]⟩ := by
 have hs := size_nil h
 apply ByteArray.ext
 apply Array.eq_empty_of_size_eq_zero
 exact hs
theorem zI_cases (k i : Int) (m : Bool) : zI (signOf k) m i = i ∨ (k = 4 ∧ (i = 0 ∨ i = 2147483648) ∧ (zI (signOf k) m i = 0 ∨ zI (signOf k) m i = 2147483648)) ∨ (k = 5 ∧ (i = 0 ∨ i = -9223372036854775808) ∧ (zI (signOf k) m i = 0 ∨ zI (signOf k) m i = -9223372036854775808)) := by
 unfold zI
 split
 ·rename_i h
  unfold signOf at h ⊢
  by_cases h4 : k = 4
  ·subst h4
   refine .inr (.inl ⟨rfl, by simpa using h.2, ?_⟩)
   cases m <;> simp
  ·by_cases h5 : k = 5
   ·subst h5
    refine .inr (.inr ⟨rfl, by simpa using h.2, ?_⟩)
    cases m <;> simp
   ·rw [if_neg h4, if_neg h5] at h
    exact absurd rfl h.1
 ·exact .inl rfl
theorem ok_fine {k i : Int} {t : ByteArray} (h : okD k i t = true) : datum_fine.v k i t = true := by
 unfold okD at h
 rw [Bool.and_eq_true] at h
 exact h.1
theorem bestL_best {P : S29 → Prop} {p : S29 → S29 → Bool} (htr : ∀ a b c, P a → P b → P c → p b a = false → p c b = false → p c a = false) (has : ∀ a b, P a → P b → p a b = true → p b a = false) :
  ∀ (l : List S29) (b : S29), P b → (∀ x ∈ l, P x) → P (bestL p b l) ∧ p b (bestL p b l) = false ∧ ∀ x ∈ l, p x (bestL p b l) = false := by
 intro l
 induction l with
 | nil =>
  intro b hb _
  refine ⟨hb, ?_, fun x hx => by cases hx⟩
  show p b b = false
  cases h : p b b with
  | false => rfl
  | true => rw [← h]; exact has b b hb hb h
 | cons x xs ih =>
  intro b hb hl
  have hx : P x := hl x List.mem_cons_self
  have hxs : ∀ y ∈ xs, P y := fun y hy => hl y (List.mem_cons_of_mem _ hy)
  have e : bestL p b (x :: xs) = bestL p (if p x b then x else b) xs := rfl
  rw [e]
  cases h : p x b with
  | true =>
   rw [if_pos rfl]
   obtain ⟨h1, h2, h3⟩ := ih x hx hxs
   refine ⟨h1, htr _ x b h1 hx hb h2 (has x b hx hb h), fun y hy => ?_⟩
   rcases List.mem_cons.mp hy with rfl | hy
   ·exact h2
   ·exact h3 y hy
  | false =>
   rw [if_neg (by decide)]
   obtain ⟨h1, h2, h3⟩ := ih b hb hxs
   refine ⟨h1, h2, fun y hy => ?_⟩
   rcases List.mem_cons.mp hy with rfl | hy
   ·exact htr _ b y h1 hb hx h2 h
   ·exact h3 y hy
def OkK (k : Int) (x : S29) : Prop := x.f0 = k ∧ okD k x.f1 x.f2 = true
theorem ahead_kc {k : Int} {x y : S29} (hx : OkK k x) (hy : OkK k y) : aheadB x y = decide (kc k x.f1 x.f2 y.f1 y.f2 < 0) := by
 obtain ⟨hx0, hx1⟩ := hx
 obtain ⟨hy0, hy1⟩ := hy
 unfold aheadB
 rw [cmp_f, hx0, hy0]
 unfold cv
 rw [if_pos ⟨hx1, hy1, rfl⟩]
theorem best_lo {k : Int} (l : List S29) (b : S29) (hb : OkK k b) (hl : ∀ x ∈ l, OkK k x) :
  OkK k (bestL aheadB b l) ∧ ∀ x ∈ b :: l, kc k (bestL aheadB b l).f1 (bestL aheadB b l).f2 x.f1 x.f2 ≤ 0 := by
 have h := bestL_best (P := OkK k) (p := aheadB) (by
  intro a b c ha hb hc h1 h2
  rw [ahead_kc hb ha] at h1
  rw [ahead_kc hc hb] at h2
  rw [ahead_kc hc ha]
  have e1 := of_decide_eq_false h1
  have e2 := of_decide_eq_false h2
  have s1 := kc_swap ha.2 hb.2
  have s2 := kc_swap hb.2 hc.2
  have s3 := kc_swap ha.2 hc.2
  have t := (kc_trans ha.2 hb.2 hc.2).1 (by omega) (by omega)
  exact decide_eq_false (by omega)) (by
  intro a b ha hb h
  rw [ahead_kc ha hb] at h
  rw [ahead_kc hb ha]
  have e := of_decide_eq_true h
  have s := kc_swap ha.2 hb.2
  exact decide_eq_false (by omega)) l b hb hl
 refine ⟨h.1, fun x hx => ?_⟩
 have hP : OkK k x := by
  rcases List.mem_cons.mp hx with rfl | hx
  ·exact hb
  ·exact hl x hx
 have h2 : aheadB x (bestL aheadB b l) = false := by
  rcases List.mem_cons.mp hx with rfl | hx
  ·exact h.2.1
  ·exact h.2.2 x hx
 rw [ahead_kc hP h.1] at h2
 have e := of_decide_eq_false h2
 have s := kc_swap hP.2 h.1.2
 omega
theorem best_hi {k : Int} (l : List S29) (b : S29) (hb : OkK k b) (hl : ∀ x ∈ l, OkK k x) :
  OkK k (bestL (fun a b => aheadB b a) b l) ∧ ∀ x ∈ b :: l, kc k x.f1 x.f2 (bestL (fun a b => aheadB b a) b l).f1 (bestL (fun a b => aheadB b a) b l).f2 ≤ 0 := by
 have h := bestL_best (P := OkK k) (p := fun a b => aheadB b a) (by
  intro a b c ha hb hc h1 h2
  rw [ahead_kc ha hb] at h1
  rw [ahead_kc hb hc] at h2
  show aheadB a c = false
  rw [ahead_kc ha hc]
  have e1 := of_decide_eq_false h1
  have e2 := of_decide_eq_false h2
  have s1 := kc_swap ha.2 hb.2
  have s2 := kc_swap hb.2 hc.2
  have s3 := kc_swap ha.2 hc.2
  have t := (kc_trans hc.2 hb.2 ha.2).1 (by omega) (by omega)
  exact decide_eq_false (by omega)) (by
  intro a b ha hb h
  have h : aheadB b a = true := h
  show aheadB a b = false
  rw [ahead_kc hb ha] at h
  rw [ahead_kc ha hb]
  have e := of_decide_eq_true h
  have s := kc_swap ha.2 hb.2
  exact decide_eq_false (by omega)) l b hb hl
 refine ⟨h.1, fun x hx => ?_⟩
 have hP : OkK k x := by
  rcases List.mem_cons.mp hx with rfl | hx
  ·exact hb
  ·exact hl x hx
 have h2 : aheadB (bestL (fun a b => aheadB b a) b l) x = false := by
  rcases List.mem_cons.mp hx with rfl | hx
  ·exact h.2.1
  ·exact h.2.2 x hx
 rw [ahead_kc h.1 hP] at h2
 have e := of_decide_eq_false h2
 have s := kc_swap hP.2 h.1.2
 omega
def ofV (t0 : Int) (l : List S29) (nulls : Int) : Int × Bool × ByteArray × ByteArray :=
 match l.filter (fun x => !nanV x) with
 | [] => (nulls, false, ⟨#[]⟩, ⟨#[]⟩)
 | x :: xs => (nulls, true, layV (bestL aheadB x xs).f0 (zI (signOf t0) true (bestL aheadB x xs).f1) (bestL aheadB x xs).f2, layV (bestL (fun a b => aheadB b a) x xs).f0 (zI (signOf t0) false (bestL (fun a b => aheadB b a) x xs).f1) (bestL (fun a b => aheadB b a) x xs).f2)
theorem of_f {t0 t1 : Int} {l : List S29} {nulls : Int} (hl : l.length ≤ 1000000) (hc : datum_Check.v t0 t1 = 0) (h0 : 0 ≤ nulls) (h1 : nulls ≤ 65536) (hall : ∀ x ∈ l, ofB t0 t1 x = true) : ranges_Of.f t0 t1 l nulls = some (ofV t0 l nulls) := by
 unfold ranges_Of.f
 rw [if_pos hl, if_neg (not_not_intro hc), if_neg (by omega), if_neg (by omega), if_neg]
 ·unfold ranges_Of.g ofV
  generalize l.filter (fun x => !nanV x) = l2
  cases l2 with
  | nil => rfl
  | cons x xs =>
   simp only [lay_v, Option.bind_some]
 ·intro h
  obtain ⟨x, hx, hf⟩ := List.any_eq_true.mp h
  rw [hall x hx] at hf
  cases hf
theorem ok_mem {t0 t1 : Int} {l : List S29} (hall : ∀ x ∈ l, ofB t0 t1 x = true) (y : S29) (hy : y ∈ l.filter (fun x => !nanV x)) : OkK t0 y ∧ ofB t0 t1 ⟨t0, y.f1, y.f2⟩ = true := by
 obtain ⟨hy, hn⟩ := List.mem_filter.mp hy
 have ho := hall y hy
 obtain ⟨k, i, t⟩ := y
 have hk := okD_nan ho
 obtain ⟨rfl, h2⟩ := hk
 refine ⟨⟨rfl, ?_⟩, ho⟩
 cases h : okD k i t with
 | true => rfl
 | false =>
  have h3 := h2.1 h
  rw [h3] at hn
  cases hn
end Go.Proofs.Ytncehlbhjoejhaa.RngSnd
end
section
namespace Go.Proofs.Ytncehlbhjoejhaa.RngOf
open Go.RowKit Go.Proofs.YtncehlbhjoejhaaW.PrintWords Go.Proofs.YtncehlbhjoejhaaW.PrintLast Go.Proofs.YtncehlbhjoejhaaW.PrintMore Go.Proofs.Ytncehlbhjoejhaa.H Go.Proofs.Ytncehlbhjoejhaa.DatAid Go.Proofs.Ytncehlbhjoejhaa.RngAid Go.Proofs.Ytncehlbhjoejhaa.CmpAid Go.Proofs.Ytncehlbhjoejhaa.RngOrd Go.Proofs.Ytncehlbhjoejhaa.RngSnd Go.Proofs.YtncehlbhjoejhaaF
set_option linter.unusedVariables false
set_option linter.unusedSimpArgs false
theorem sc_zero : ∀ x y : List UInt8, sc x y = 0 → x = y
 | [], [] => fun _ => rfl
 | [], _ :: _ => fun h => by simp [sc] at h
 | _ :: _, [] => fun h => by simp [sc] at h
 | x :: xs, y :: ys => fun h => by
  simp only [sc] at h
  by_cases h1 : x < y
  ·rw [if_pos h1] at h; exact absurd h (by decide)
  ·rw [if_neg h1] at h
   by_cases h2 : y < x
   ·rw [if_pos h2] at h; exact absurd h (by decide)
   ·rw [if_neg h2] at h
    have e : x = y := by
     apply UInt8.toNat_inj.mp
     have a1 : ¬ x.toNat < y.toNat := h1
     have a2 : ¬ y.toNat < x.toNat := h2
     omega
    rw [e, sc_zero xs ys h]
theorem toList_inj {a b : ByteArray} (h : a.toList = b.toList) : a = b := by
 rw [Lib.toList_data, Lib.toList_data] at h
 apply ByteArray.ext
 exact Array.toList_inj.mp h
theorem fcmp_zero {x y : Nat} (hx : (Ieee.double.read x).isNaN = false) (hy : (Ieee.double.read y).isNaN = false) (h : fcmpI x y = 0) : (Ieee.double.read x).order (Ieee.double.read y) = some .eq := by
 obtain ⟨o, ho⟩ := order_num hx hy
 unfold fcmpI at h
 rw [ho] at h
 cases o with
 | eq => exact ho
 | lt => exact absurd h (by decide)
 | gt => exact absurd h (by decide)
theorem u64_of (i : Int) : u64b i = (i % 18446744073709551616).toNat := by
 unfold u64b
 simp only [IntKind.wrap, IntKind.bits, IntKind.signed, Bool.false_and]
 simp
theorem zI_two {s : Int} (hs : s ≠ 0) (m : Bool) {i j : Int} (hi : i = 0 ∨ i = s) (hj : j = 0 ∨ j = s) : zI s m i = zI s m j := by
 have h1 : s ≠ 0 ∧ (i = 0 ∨ i = s) := ⟨hs, hi⟩
 have h2 : s ≠ 0 ∧ (j = 0 ∨ j = s) := ⟨hs, hj⟩
 unfold zI
 rw [if_pos h1, if_pos h2]
theorem ok_nan {k i : Int} {t : ByteArray} (h : okD k i t = true) (h45 : k = 4 ∨ k = 5) : nanD k i = false := by
 have hf := ok_fine h
 unfold okD isReal at h
 rw [hf] at h
 rcases h45 with rfl | rfl <;> simpa using h
theorem lay_eq {k i1 i2 : Int} {t1 t2 : ByteArray} (m : Bool) (o1 : okD k i1 t1 = true) (o2 : okD k i2 t2 = true) (h : kc k i1 t1 i2 t2 = 0) : layV k (zI (signOf k) m i1) t1 = layV k (zI (signOf k) m i2) t2 := by
 have f1 := ok_fine o1
 have f2 := ok_fine o2
 have r1 := fine_range f1
 have r2 := fine_range f2
 have int : ¬ (k = 4 ∨ k = 5) → ¬ (k = 6 ∨ k = 7) → layV k (zI (signOf k) m i1) t1 = layV k (zI (signOf k) m i2) t2 := by
  intro h45 h67
  unfold kc at h
  rw [if_neg h45, if_neg h67] at h
  have e : i1 = i2 := by
   by_cases a : i1 < i2
   ·rw [if_pos a] at h; exact absurd h (by decide)
   ·by_cases b : i1 > i2
    ·rw [if_neg a, if_pos b] at h; exact absurd h (by decide)
    ·omega
  have e2 : t1 = t2 := (nil_eq (r1.2.2.2.2.2 (fun h => h67 (.inl h)) (fun h => h67 (.inr h)))).trans (nil_eq (r2.2.2.2.2.2 (fun h => h67 (.inl h)) (fun h => h67 (.inr h)))).symm
  rw [e, e2]
 have flo : (k = 4 ∨ k = 5) → zI (signOf k) m i1 = zI (signOf k) m i2 → layV k (zI (signOf k) m i1) t1 = layV k (zI (signOf k) m i2) t2 := by
  intro h45 he
  have e2 : t1 = t2 := (nil_eq (r1.2.2.2.2.2 (by omega) (by omega))).trans (nil_eq (r2.2.2.2.2.2 (by omega) (by omega))).symm
  rw [he, e2]
 have txt : (k = 6 ∨ k = 7) → layV k (zI (signOf k) m i1) t1 = layV k (zI (signOf k) m i2) t2 := by
  intro h67
  unfold kc at h
  rw [if_neg (by omega), if_pos h67] at h
  have e2 := toList_inj (sc_zero _ _ h)
  have a1 := r1.2.2.2.2.1 h67
  have a2 := r2.2.2.2.2.1 h67
  rw [e2, a1, a2]
 rcases fine_kind f1 with rfl | rfl | rfl | rfl | rfl | rfl | rfl
 ·exact int (by omega) (by omega)
 ·exact int (by omega) (by omega)
 ·exact int (by omega) (by omega)
 ·refine flo (.inl rfl) ?_
  unfold kc at h
  rw [if_pos (.inl rfl)] at h
  have h1 := fcmp_zero (okD_num o1 (.inl rfl)) (okD_num o2 (.inl rfl)) h
  have n1 := ok_nan o1 (.inl rfl)
  have n2 := ok_nan o2 (.inl rfl)
  have a1 := r1.2.2.2.1 rfl
  have a2 := r2.2.2.2.1 rfl
  have e1 : rbits 4 i1 = Ieee.double.write (Ieee.single.read i1.toNat) := rfl
  have e2 : rbits 4 i2 = Ieee.double.write (Ieee.single.read i2.toNat) := rfl
  rw [e1, e2] at h1
  rcases same32 i1.toNat i2.toNat (by omega) (by omega) n1 n2 h1 with h2 | ⟨h2, h3⟩
  ·rw [show i1 = i2 by omega]
  ·have hs : signOf 4 = 2147483648 := rfl
   rw [hs]
   exact zI_two (by decide) m (by omega) (by omega)
 ·refine flo (.inr rfl) ?_
  unfold kc at h
  rw [if_pos (.inr rfl)] at h
  have h1 := fcmp_zero (okD_num o1 (.inr rfl)) (okD_num o2 (.inr rfl)) h
  have a1 := r1.2.2.1 (.inr rfl)
  have a2 := r2.2.2.1 (.inr rfl)
  have e1 : rbits 5 i1 = u64b i1 := rfl
  have e2 : rbits 5 i2 = u64b i2 := rfl
  rw [e1, e2, u64_of, u64_of] at h1
  rcases same64 _ _ (by omega) (by omega) h1 with h2 | ⟨h2, h3⟩
  ·rw [show i1 = i2 by omega]
  ·have hs : signOf 5 = -9223372036854775808 := rfl
   rw [hs]
   exact zI_two (by decide) m (by omega) (by omega)
 ·exact txt (.inl rfl)
 ·exact txt (.inr rfl)
theorem wrap_next (i : Nat) (h : i < 1000000000000000) : wrap64 ((i : Int) + 1) = ((i + 1 : Nat) : Int) := by
 unfold wrap64
 omega
theorem rd_at (l : List S29) (i : Nat) (h : i < l.length) : rd_T29 l (i : Int) = l[i] := by
 unfold rd_T29
 rw [Int.toNat_natCast, List.getD_eq_getElem?_getD, List.getElem?_eq_getElem h]
 rfl
def Small (l : List S29) : Prop := ∀ x ∈ l, inR x.f1 ∧ x.f2.size ≤ 10000
def cvD (x y : S29) : Int × Bool := cv x.f0 x.f1 x.f2 y.f0 y.f1 y.f2
def leB_ (x y : S29) : Bool := !(cvD x y).2 || decide ((cvD x y).1 ≥ 0)
def moB_ (x y : S29) : Bool := !(cvD x y).2 || decide ((cvD x y).1 ≤ 0)
theorem l2_loop (l : List S29) (hs : Small l) (hlen : l.length ≤ 100) (i : Nat) (hi : i < l.length) (n : Int) (h : Bool) (a b : ByteArray) :
  ∀ d j K : Nat, ∀ le mo : Bool, l.length = j + d → 20010 + d ≤ K → marquetryref22_Of.l2 K l (i : Int) le mo (j : Int) n h a b = marquetryref22_Of.l2 (K - d) l (i : Int) (le && (l.drop j).all (fun x => leB_ x l[i])) (mo && (l.drop j).all (fun x => moB_ x l[i])) (l.length : Int) n h a b := by
 intro d
 induction d with
 | zero =>
  intro j K le mo hj hK
  have e : l.drop j = [] := List.drop_eq_nil_of_le (by omega)
  rw [e]
  have e2 : j = l.length := by omega
  subst e2
  simp
 | succ d ih =>
  intro j K le mo hj hK
  obtain ⟨K, rfl⟩ : ∃ K', K = K' + 1 := ⟨K - 1, by omega⟩
  have hjl : j < l.length := by omega
  have hsx := hs l[j] (List.getElem_mem hjl)
  have hsi := hs l[i] (List.getElem_mem hi)
  rw [List.drop_eq_getElem_cons hjl]
  have ihb := fun le mo => ih (j + 1) K le mo (by omega) (by omega)
  have eK : K + 1 - (d + 1) = K - d := by omega
  rw [eK, List.all_cons, List.all_cons, ← Bool.and_assoc, ← Bool.and_assoc, ← ihb]
  have hcv : cv l[j].f0 l[j].f1 l[j].f2 l[i].f0 l[i].f1 l[i].f2 = cvD l[j] l[i] := rfl
  conv => lhs; simp only [marquetryref22_Of.l2]
  rw [if_pos (by omega), if_pos (by omega), if_pos (by omega), if_pos (by omega), rd_at l j hjl, rd_at l i hi, cmp_at _ _ _ _ _ _ hsx.1 hsi.1 (by omega) hsx.2, hcv, wrap_next j (by omega)]
  simp only [Option.bind_some]
  unfold leB_ moB_
  generalize cvD l[j] l[i] = c
  obtain ⟨c1, c2⟩ := c
  cases le <;> cases mo <;> cases c2 <;> simp
def leastB (l : List S29) (x : S29) : Bool := okD x.f0 x.f1 x.f2 && l.all (fun y => leB_ y x)
def mostB (l : List S29) (x : S29) : Bool := okD x.f0 x.f1 x.f2 && l.all (fun y => moB_ y x)
theorem l1_loop (l : List S29) (hs : Small l) (hlen : l.length ≤ 100) (n : Int) (LA MO : ByteArray) (hL : ∀ x ∈ l, leastB l x = true → layV x.f0 (zI (signOf x.f0) true x.f1) x.f2 = LA) (hM : ∀ x ∈ l, mostB l x = true → layV x.f0 (zI (signOf x.f0) false x.f1) x.f2 = MO) (hz : ∀ x ∈ l, ∀ m, inR (zI (signOf x.f0) m x.f1)) :
  ∀ d j K : Nat, ∀ (h : Bool) (a b : ByteArray), l.length = j + d → 20020 + d * 110 ≤ K → marquetryref22_Of.l1 K l (j : Int) n h a b = some (n, h || (l.drop j).any (leastB l), if (l.drop j).any (leastB l) = true then LA else a, if (l.drop j).any (mostB l) = true then MO else b) := by
 intro d
 induction d with
 | zero =>
  intro j K h a b hj hK
  obtain ⟨K, rfl⟩ : ∃ K', K = K' + 1 := ⟨K - 1, by omega⟩
  have e : l.drop j = [] := List.drop_eq_nil_of_le (by omega)
  rw [e]
  simp only [marquetryref22_Of.l1]
  rw [if_neg (by omega)]
  simp
 | succ d ih =>
  intro j K h a b hj hK
  obtain ⟨K, rfl⟩ : ∃ K', K = K' + 1 := ⟨K - 1, by omega⟩
  have hjl : j < l.length := by omega
  have hsx := hs l[j] (List.getElem_mem hjl)
  simp only [marquetryref22_Of.l1]
  rw [if_pos (by omega), if_pos (by omega), rd_at l j hjl]
  have hpl : ∀ K, 20003 ≤ K → marquetryref22_placed.f K l[j].f0 l[j].f1 l[j].f2 = some (okD l[j].f0 l[j].f1 l[j].f2) := by
   intro K hK
   unfold marquetryref22_placed.f
   rw [cmp_at _ _ _ _ _ _ hsx.1 hsx.1 hK hsx.2]
   simp only [Option.bind_some]
   unfold cv
   cases okD l[j].f0 l[j].f1 l[j].f2 <;> simp
  rw [hpl K (by omega)]
  simp only [Option.bind_some]
  have e2 : marquetryref22_Of.l2 K l (j : Int) (okD l[j].f0 l[j].f1 l[j].f2) (okD l[j].f0 l[j].f1 l[j].f2) 0 n h a b = _ := l2_loop l hs hlen j hjl n h a b l.length 0 K _ _ (by omega) (by omega)
  rw [e2, List.drop_zero]
  have eL : (okD l[j].f0 l[j].f1 l[j].f2 && l.all (fun x => leB_ x l[j])) = leastB l l[j] := rfl
  have eM : (okD l[j].f0 l[j].f1 l[j].f2 && l.all (fun x => moB_ x l[j])) = mostB l l[j] := rfl
  rw [eL, eM]
  obtain ⟨K2, hK2⟩ : ∃ K2, K - l.length = K2 + 3 := ⟨K - l.length - 3, by omega⟩
  rw [hK2, List.drop_eq_getElem_cons hjl, List.any_cons, List.any_cons]
  have hj4 : ∀ h' a', marquetryref22_Of.j4 (K2 + 2) l (j : Int) (mostB l l[j]) n h' a' b = some (n, h' || (l.drop (j + 1)).any (leastB l), if (l.drop (j + 1)).any (leastB l) = true then LA else a', if (mostB l l[j] || (l.drop (j + 1)).any (mostB l)) = true then MO else b) := by
   intro h' a'
   cases hm : mostB l l[j] with
   | true =>
    simp only [marquetryref22_Of.j4]
    rw [if_pos trivial, if_pos (by omega), if_pos (by omega), rd_at l j hjl, wrap_next j (by omega), zero_at _ _ _ _ (by omega)]
    simp only [Option.bind_some]
    rw [refLay_at _ _ _ (hz _ (List.getElem_mem hjl) false) (by omega)]
    simp only [Option.bind_some]
    rw [hM _ (List.getElem_mem hjl) hm, ih (j + 1) (K2 + 1) h' a' MO (by omega) (by omega)]
    simp
   | false =>
    simp only [marquetryref22_Of.j4]
    rw [if_neg (by decide), wrap_next j (by omega), ih (j + 1) (K2 + 1) h' a' b (by omega) (by omega)]
    simp
  cases hl : leastB l l[j] with
  | true =>
   simp only [marquetryref22_Of.l2]
   rw [if_neg (by omega), if_pos trivial, if_pos (by omega), if_pos (by omega), rd_at l j hjl, zero_at _ _ _ _ (by omega)]
   simp only [Option.bind_some]
   rw [refLay_at _ _ _ (hz _ (List.getElem_mem hjl) true) (by omega)]
   simp only [Option.bind_some]
   rw [hL _ (List.getElem_mem hjl) hl, hj4]
   simp
  | false =>
   simp only [marquetryref22_Of.l2]
   rw [if_neg (by omega), if_neg (by decide), hj4]
   simp
theorem l0_loop (l : List S29) (hs : Small l) (hlen : l.length ≤ 100) (t0 t1 n : Int) (h : Bool) (a b : ByteArray) :
  ∀ d j K : Nat, l.length = j + d → 1 + d ≤ K → marquetryref22_Of.l0 K l (j : Int) t0 t1 n h a b = if (l.drop j).any (fun x => !ofB t0 t1 x) = true then some noStats else marquetryref22_Of.l1 (K - d - 1) l 0 n h a b := by
 intro d
 induction d with
 | zero =>
  intro j K hj hK
  obtain ⟨K, rfl⟩ : ∃ K', K = K' + 1 := ⟨K - 1, by omega⟩
  have e : l.drop j = [] := List.drop_eq_nil_of_le (by omega)
  rw [e]
  simp only [marquetryref22_Of.l0]
  rw [if_neg (by omega)]
  simp
 | succ d ih =>
  intro j K hj hK
  obtain ⟨K, rfl⟩ : ∃ K', K = K' + 1 := ⟨K - 1, by omega⟩
  have hjl : j < l.length := by omega
  have hsx := hs l[j] (List.getElem_mem hjl)
  simp only [marquetryref22_Of.l0]
  rw [if_pos (by omega), if_pos (by omega), rd_at l j hjl, refOf_at _ _ _ _ _ hsx.1 (by omega), wrap_next j (by omega), List.drop_eq_getElem_cons hjl, List.any_cons]
  simp only [Option.bind_some]
  have hx : ofB t0 t1 ⟨l[j].f0, l[j].f1, l[j].f2⟩ = ofB t0 t1 l[j] := rfl
  rw [hx]
  cases hof : ofB t0 t1 l[j] with
  | true =>
   rw [if_pos rfl, ih (j + 1) K (by omega) (by omega), show K + 1 - (d + 1) - 1 = K - d - 1 by omega]
   simp
  | false => simp [noStats]
theorem cv_kc {k : Int} {x y : S29} (hx : x.f0 = k) (hy : y.f0 = k) : cvD x y = if okD k x.f1 x.f2 = true ∧ okD k y.f1 y.f2 = true then (kc k x.f1 x.f2 y.f1 y.f2, true) else (0, false) := by
 unfold cvD cv
 rw [hx, hy]
 by_cases h : okD k x.f1 x.f2 = true ∧ okD k y.f1 y.f2 = true
 ·rw [if_pos h, if_pos ⟨h.1, h.2, rfl⟩]
 ·rw [if_neg h, if_neg (fun h2 => h ⟨h2.1, h2.2.1⟩)]
theorem refOf_all (l : List S29) (hs : Small l) (hlen : l.length ≤ 100) (t0 t1 n : Int) (hall : ∀ x ∈ l, ofB t0 t1 x = true) (K : Nat) (hK : 40000 ≤ K) :
  marquetryref22_Of.l1 K l 0 n false ⟨#[]⟩ ⟨#[]⟩ = some (ofV t0 l n) := by
 have hk0 : ∀ x ∈ l, x.f0 = t0 := fun x hx => ((ofB_iff t0 t1 x.f0 x.f1 x.f2).1 (hall x hx)).2.2.1
 have hz : ∀ x ∈ l, ∀ m, inR (zI (signOf x.f0) m x.f1) := by
  intro x hx m
  have hr := (hs x hx).1
  rcases zI_cases x.f0 x.f1 m with h | ⟨_, _, h⟩ | ⟨_, _, h⟩
  ·rw [h]; exact hr
  ·unfold inR; omega
  ·unfold inR; omega
 by_cases hne : l.filter (fun x => !nanV x) = []
 ·have hno : ∀ x ∈ l, okD x.f0 x.f1 x.f2 = false := by
   intro x hx
   have h2 : x ∉ l.filter (fun x => !nanV x) := by rw [hne]; exact List.not_mem_nil
   have h3 : nanV x = true := by
    cases hn : nanV x with
    | true => rfl
    | false => exact absurd (List.mem_filter.mpr ⟨hx, by rw [hn]; rfl⟩) h2
   exact (okD_nan (hall x hx)).2.2 h3
  have a1 : ∀ x ∈ l, leastB l x = false := fun x hx => by unfold leastB; rw [hno x hx]; rfl
  have a2 : ∀ x ∈ l, mostB l x = false := fun x hx => by unfold mostB; rw [hno x hx]; rfl
  have e := l1_loop l hs hlen n ⟨#[]⟩ ⟨#[]⟩ (fun x hx h => by rw [a1 x hx] at h; cases h) (fun x hx h => by rw [a2 x hx] at h; cases h) hz l.length 0 K false ⟨#[]⟩ ⟨#[]⟩ (by omega) (by omega)
  have b1 : l.any (leastB l) = false := by
   rw [List.any_eq_false]
   intro x hx
   rw [a1 x hx]
   decide
  have b2 : l.any (mostB l) = false := by
   rw [List.any_eq_false]
   intro x hx
   rw [a2 x hx]
   decide
  rw [show (0 : Int) = ((0 : Nat) : Int) from rfl, e, List.drop_zero, b1, b2]
  have eV : ofV t0 l n = (n, false, ⟨#[]⟩, ⟨#[]⟩) := by unfold ofV; rw [hne]
  rw [eV]
  rfl
 ·have hok := ok_mem hall
  obtain ⟨x, xs, hcons⟩ : ∃ x xs, l.filter (fun x => !nanV x) = x :: xs := by
   cases hl : l.filter (fun x => !nanV x) with
   | nil => exact absurd hl hne
   | cons x xs => exact ⟨x, xs, rfl⟩
  have eV : ofV t0 l n = (n, true, layV (bestL aheadB x xs).f0 (zI (signOf t0) true (bestL aheadB x xs).f1) (bestL aheadB x xs).f2, layV (bestL (fun a b => aheadB b a) x xs).f0 (zI (signOf t0) false (bestL (fun a b => aheadB b a) x xs).f1) (bestL (fun a b => aheadB b a) x xs).f2) := by
   unfold ofV
   rw [hcons]
  have hx := (hok x (by rw [hcons]; exact List.mem_cons_self)).1
  have hxs : ∀ y ∈ xs, OkK t0 y := fun y hy => (hok y (by rw [hcons]; exact List.mem_cons_of_mem _ hy)).1
  have q1 := best_lo xs x hx hxs
  have q2 := best_hi xs x hx hxs
  have m1 := bestL_mem aheadB xs x
  have m2 := bestL_mem (fun a b => aheadB b a) xs x
  have m1' : bestL aheadB x xs ∈ x :: xs := by rcases m1 with h | h; rw [h]; exact List.mem_cons_self; exact List.mem_cons_of_mem _ h
  have m2' : bestL (fun a b => aheadB b a) x xs ∈ x :: xs := by rcases m2 with h | h; rw [h]; exact List.mem_cons_self; exact List.mem_cons_of_mem _ h
  generalize bestL aheadB x xs = lo at *
  generalize bestL (fun a b => aheadB b a) x xs = hi at *
  have hmem : ∀ y ∈ l, okD t0 y.f1 y.f2 = true → y ∈ x :: xs := by
   intro y hy ho
   rw [← hcons]
   refine List.mem_filter.mpr ⟨hy, ?_⟩
   cases hn : nanV y with
   | false => rfl
   | true =>
    have h3 := (okD_nan (hall y hy)).2.2 hn
    rw [hk0 y hy, ho] at h3
    cases h3
  have hin : ∀ y ∈ x :: xs, y ∈ l := fun y hy => (List.mem_filter.mp (hcons ▸ hy)).1
  -- what is least, what is most
  have hL1 : leastB l lo = true := by
   unfold leastB
   rw [q1.1.1, q1.1.2, Bool.true_and, List.all_eq_true]
   intro y hy
   unfold leB_
   rw [cv_kc (hk0 y hy) q1.1.1]
   by_cases ho : okD t0 y.f1 y.f2 = true
   ·rw [if_pos ⟨ho, q1.1.2⟩]
    have h1 := q1.2 y (hmem y hy ho)
    have h2 := kc_swap ho q1.1.2
    have h3 : kc t0 y.f1 y.f2 lo.f1 lo.f2 ≥ 0 := by omega
    simp [h3]
   ·rw [if_neg (fun h => ho h.1)]
    rfl
  have hM1 : mostB l hi = true := by
   unfold mostB
   rw [q2.1.1, q2.1.2, Bool.true_and, List.all_eq_true]
   intro y hy
   unfold moB_
   rw [cv_kc (hk0 y hy) q2.1.1]
   by_cases ho : okD t0 y.f1 y.f2 = true
   ·rw [if_pos ⟨ho, q2.1.2⟩]
    have h1 := q2.2 y (hmem y hy ho)
    simp [h1]
   ·rw [if_neg (fun h => ho h.1)]
    rfl
  have hLall : ∀ y ∈ l, leastB l y = true → layV y.f0 (zI (signOf y.f0) true y.f1) y.f2 = layV lo.f0 (zI (signOf t0) true lo.f1) lo.f2 := by
   intro y hy h
   unfold leastB at h
   rw [hk0 y hy, Bool.and_eq_true, List.all_eq_true] at h
   have h1 := h.2 lo (hin lo m1')
   unfold leB_ at h1
   rw [cv_kc q1.1.1 (hk0 y hy), if_pos ⟨q1.1.2, h.1⟩] at h1
   have h2 : kc t0 lo.f1 lo.f2 y.f1 y.f2 ≥ 0 := by simpa using h1
   have h3 := q1.2 y (hmem y hy h.1)
   have h4 := kc_swap h.1 q1.1.2
   rw [hk0 y hy, q1.1.1]
   exact lay_eq true h.1 q1.1.2 (by omega)
  have hMall : ∀ y ∈ l, mostB l y = true → layV y.f0 (zI (signOf y.f0) false y.f1) y.f2 = layV hi.f0 (zI (signOf t0) false hi.f1) hi.f2 := by
   intro y hy h
   unfold mostB at h
   rw [hk0 y hy, Bool.and_eq_true, List.all_eq_true] at h
   have h1 := h.2 hi (hin hi m2')
   unfold moB_ at h1
   rw [cv_kc q2.1.1 (hk0 y hy), if_pos ⟨q2.1.2, h.1⟩] at h1
   have h2 : kc t0 hi.f1 hi.f2 y.f1 y.f2 ≤ 0 := by simpa using h1
   have h3 := q2.2 y (hmem y hy h.1)
   have h4 := kc_swap h.1 q2.1.2
   rw [hk0 y hy, q2.1.1]
   exact lay_eq false h.1 q2.1.2 (by omega)
  have e := l1_loop l hs hlen n _ _ hLall hMall hz l.length 0 K false ⟨#[]⟩ ⟨#[]⟩ (by omega) (by omega)
  have b1 : l.any (leastB l) = true := List.any_eq_true.mpr ⟨lo, hin lo m1', hL1⟩
  have b2 : l.any (mostB l) = true := List.any_eq_true.mpr ⟨hi, hin hi m2', hM1⟩
  rw [show (0 : Int) = ((0 : Nat) : Int) from rfl, e, List.drop_zero, b1, b2, eV]
  rfl
theorem refOf (l : List S29) (hs : Small l) (hlen : l.length ≤ 100) (t0 t1 n : Int) (K : Nat) (hK : 40200 ≤ K) : marquetryref22_Of.f K t0 t1 l n = ranges_Of.f t0 t1 l n := by
 unfold marquetryref22_Of.f
 rw [refCheck_at _ _ (by omega)]
 simp only [Option.bind_some]
 obtain ⟨K, rfl⟩ : ∃ K', K = K' + 1 := ⟨K - 1, by omega⟩
 have hT : marquetryref22_Of.j0 (K + 1) l n true t0 t1 = some noStats := by
  simp only [marquetryref22_Of.j0]
  rfl
 have hF : ranges_Of.f t0 t1 l n = (if datum_Check.v t0 t1 ≠ 0 then some noStats else if n < 0 then some noStats else if n > 65536 then some noStats else if l.any (fun x => !ofB t0 t1 x) = true then some noStats else ranges_Of.g t0 t1 l n) := by
  unfold ranges_Of.f
  rw [if_pos (by omega)]
 by_cases hc : datum_Check.v t0 t1 = 0
 ·rw [decide_eq_true hc, if_pos rfl]
  by_cases h0 : n < 0
  ·rw [if_pos h0, hT, hF, if_neg (not_not_intro hc), if_pos h0]
  by_cases h6 : n > 65536
  ·rw [if_neg h0, decide_eq_true h6, hT, hF, if_neg (not_not_intro hc), if_neg h0, if_pos h6]
  rw [if_neg h0, decide_eq_false h6]
  simp only [marquetryref22_Of.j0]
  rw [if_neg (by decide)]
  have e := l0_loop l hs hlen t0 t1 n false ⟨#[]⟩ ⟨#[]⟩ l.length 0 K (by omega) (by omega)
  rw [show (0 : Int) = ((0 : Nat) : Int) from rfl, e, List.drop_zero]
  by_cases hany : l.any (fun x => !ofB t0 t1 x) = true
  ·rw [if_pos hany, hF, if_neg (not_not_intro hc), if_neg h0, if_neg h6, if_pos hany]
  ·rw [if_neg hany]
   have hall : ∀ x ∈ l, ofB t0 t1 x = true := by
    intro x hx
    cases h : ofB t0 t1 x with
    | true => rfl
    | false => exact absurd (List.any_eq_true.mpr ⟨x, hx, by rw [h]; rfl⟩) hany
   rw [of_f (by omega) hc (by omega) (by omega) hall]
   exact refOf_all l hs hlen t0 t1 n hall _ (by omega)
 ·rw [decide_eq_false hc, if_neg (by decide), hT, hF, if_pos hc]
end Go.Proofs.Ytncehlbhjoejhaa.RngOf
end
