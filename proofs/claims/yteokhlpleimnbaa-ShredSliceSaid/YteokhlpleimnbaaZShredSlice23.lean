/- Texts of the claim, packed: ShrAid, SlcAid. -/
import Derived.Lib.Hide
import Derived.Test.YteokhlpleimnbaaZShredSlice5
import Derived.Test.YteokhlpleimnbaaZShredSlice6
import Derived.Test.YteokhlpleimnbaaZShredSlice10
import Derived.Test.YteokhlpleimnbaaZShredSlice11
import Derived.Test.YteokhlpleimnbaaZShredSlice14
import Derived.Test.YteokhlpleimnbaaZShredSlice16
import Derived.Test.YteokhlpleimnbaaZShredSlice17
import Derived.Test.YteokhlpleimnbaaZShredSlice18
import Derived.Test.YteokhlpleimnbaaZShredSlice19
import Derived.Test.YteokhlpleimnbaaZShredSlice22
section
/- What the walks of ShredCheck and ShredSlice hand on, against the document's answers, in plain words: entries that may be a leaf's, rows counted, columns compared. -/
namespace Go.Proofs.Yteokhlpleimnbaa.ShrAid
open Go.RowKit Go.Proofs.YteokhlpleimnbaaW.PrintWords Go.Proofs.YteokhlpleimnbaaW.PrintLast Go.Proofs.YteokhlpleimnbaaW.PrintMore Go.Proofs.Yteokhlpleimnbaa.H Go.Proofs.Yteokhlpleimnbaa.SchAid Go.Proofs.Yteokhlpleimnbaa.DatAid
set_option linter.unusedVariables false
set_option linter.unusedSimpArgs false
theorem ref_of (k i : Int) (t : ByteArray) (t0 t1 : Int) (hi : -9223372036854775808 ≤ i ∧ i ≤ 9223372036854775807) : r09_Of.f 1 k i t t0 t1 = datum_Of.f k i t t0 t1 := by
 unfold datum_Of.f r09_Of.f
 have e1 : datum_Check.f t0 t1 = some (datum_Check.v t0 t1) := rfl
 have e2 : datum_fine.f k i t = some (datum_fine.v k i t) := rfl
 rw [e1, e2, ref_check t0 t1, ref_fine k i t hi]
 simp
theorem of_ev (x : S58) (t0 t1 : Int) (hi : -9223372036854775808 ≤ x.f1 ∧ x.f1 ≤ 9223372036854775807) : Ans (fun k => r09_Of.f k x.f0 x.f1 x.f2 t0 t1) (ofT_ t0 t1 x) := by
 obtain ⟨b, hb⟩ := ofT_all x.f0 x.f1 x.f2 t0 t1
 have e : ofT_ t0 t1 x = b := by unfold ofT_; rw [hb]; rfl
 rw [e]
 exact Ans.up (f := fun k => r09_Of.f k x.f0 x.f1 x.f2 t0 t1) (fun k => r09_Of.mono _ _ _ _ _ k) (K := 1) ((ref_of _ _ _ _ _ hi).trans hb)
theorem rd_midI (pre : List Int) (x : Int) (rest : List Int) : rd (pre ++ x :: rest) (pre.length : Int) = x := by
 unfold rd
 rw [Int.toNat_natCast, List.getD_eq_getElem?_getD, List.getElem?_append_right (Nat.le_refl _), Nat.sub_self]
 rfl
theorem rd_midD (pre : List S58) (x : S58) (rest : List S58) : rd_T58 (pre ++ x :: rest) (pre.length : Int) = x := by
 unfold rd_T58
 rw [Int.toNat_natCast, List.getD_eq_getElem?_getD, List.getElem?_append_right (Nat.le_refl _), Nat.sub_self]
 rfl
theorem vast_ev (l0 l1 : List Int) (l2 : List S58) : ∃ b, Ans (fun k => l18_vast.f k l0 l1 l2) b ∧ (b = false → l0.length ≤ 200 ∧ l1.length ≤ 200 ∧ l2.length ≤ 200) := by
 have last : ∀ n : Int, ∃ b, (if (l0.length : Int) > 200 then (some true) else (if (l1.length : Int) > 200 then (some true) else (if (l2.length : Int) > 200 then (some true) else (some (decide (n > 2000)))))) = some b ∧ (b = false → l0.length ≤ 200 ∧ l1.length ≤ 200 ∧ l2.length ≤ 200) := by
  intro n
  by_cases h0 : (l0.length : Int) > 200
  ·exact ⟨true, if_pos h0, fun h => by cases h⟩
  rw [if_neg h0]
  by_cases h1 : (l1.length : Int) > 200
  ·exact ⟨true, if_pos h1, fun h => by cases h⟩
  rw [if_neg h1]
  by_cases h2 : (l2.length : Int) > 200
  ·exact ⟨true, if_pos h2, fun h => by cases h⟩
  rw [if_neg h2]
  exact ⟨_, rfl, fun _ => by omega⟩
 have loop : ∀ d i : Nat, 200 - i ≤ d → i ≤ 200 → ∀ n : Int, ∃ b, Ans (fun k => l18_vast.l0 k n (i : Int) l0 l1 l2) b ∧ (b = false → l0.length ≤ 200 ∧ l1.length ≤ 200 ∧ l2.length ≤ 200) := by
  intro d
  induction d with
  | zero =>
   intro i hd hi n
   obtain ⟨b, hb, h2⟩ := last n
   refine ⟨b, Ans.succ (g := fun _ => some b) (fun k => ?_) (Ans.const _), h2⟩
   simp only [l18_vast.l0]
   by_cases h : (i : Int) < (l2.length : Int)
   ·rw [if_pos h, if_neg (by omega), hb]
   ·rw [if_neg h, hb]
  | succ d ih =>
   intro i hd hi n
   by_cases h : (i : Int) < (l2.length : Int)
   ·by_cases h2 : i < 200
    ·obtain ⟨b, hb, h3⟩ := ih (i + 1) (by omega) (by omega) (wrap64 (n + (((rd_T58 l2 (i : Int)).f2).size : Int)))
     refine ⟨b, Ans.succ (fun k => ?_) hb, h3⟩
     simp only [l18_vast.l0]
     rw [if_pos h, if_pos (by omega), if_pos (by omega), wrap_on (i := (i : Int) + 1) (by omega) (by omega)]
     rfl
    ·obtain ⟨b, hb, h3⟩ := last n
     refine ⟨b, Ans.succ (g := fun _ => some b) (fun k => ?_) (Ans.const _), h3⟩
     simp only [l18_vast.l0]
     rw [if_pos h, if_neg (by omega), hb]
   ·obtain ⟨b, hb, h2⟩ := last n
    refine ⟨b, Ans.succ (g := fun _ => some b) (fun k => ?_) (Ans.const _), h2⟩
    simp only [l18_vast.l0]
    rw [if_neg h, hb]
 obtain ⟨b, hb, h⟩ := loop 200 0 (by omega) (by omega) 0
 exact ⟨b, hb, h⟩
theorem ints_ev (l0 l1 : List Int) (hb : l0.length ≤ 1000000) : Ans (fun k => r17_ints.f k l0 l1) (decide (l0 = l1)) := by
 unfold r17_ints.f
 by_cases hl : l0.length = l1.length
 ·refine Ans.pos (by omega) ?_
  have loop : ∀ (r0 r1 p : List Int), r0.length = r1.length → l0 = p ++ r0 → l1 = p ++ r1 → Ans (fun k => r17_ints.l0 k l0 l1 (p.length : Int)) (decide (l0 = l1)) := by
   intro r0
   induction r0 with
   | nil =>
    intro r1 p hr e0 e1
    obtain rfl := List.eq_nil_of_length_eq_zero hr.symm
    have hln : l0.length = p.length := by rw [e0]; simp
    have he : l0 = l1 := by rw [e0, e1]
    refine Ans.succ (g := fun _ => some (decide (l0 = l1))) (fun k => ?_) (Ans.const _)
    simp only [r17_ints.l0]
    rw [if_neg (by omega), decide_eq_true he]
   | cons x r0 ih =>
    intro r1 p hr e0 e1
    cases r1 with
    | nil => simp at hr
    | cons y r1 =>
     have hln : l0.length = p.length + (r0.length + 1) := by rw [e0]; simp
     have q0 : rd l0 (p.length : Int) = x := by rw [e0]; exact rd_midI _ _ _
     have q1 : rd l1 (p.length : Int) = y := by rw [e1]; exact rd_midI _ _ _
     by_cases hxy : x = y
     ·subst hxy
      have := ih r1 (p ++ [x]) (by simpa using hr) (by rw [e0]; simp) (by rw [e1]; simp)
      refine Ans.succ (fun k => ?_) this
      simp only [r17_ints.l0]
      rw [if_pos (by omega), if_pos (by omega), if_pos (by omega), q0, q1, if_pos rfl, wrap_on (by omega) (by omega)]
      simp
     ·have hne : ¬ l0 = l1 := fun h => by
       rw [e0, e1] at h
       exact hxy (List.cons.inj (List.append_cancel_left h)).1
      refine Ans.succ (g := fun _ => some (decide (l0 = l1))) (fun k => ?_) (Ans.const _)
      simp only [r17_ints.l0]
      rw [if_pos (by omega), if_pos (by omega), if_pos (by omega), q0, q1, if_neg hxy, decide_eq_false hne]
  exact loop l0 l1 [] hl rfl rfl
 ·rw [decide_eq_false (fun h => hl (by rw [h]))]
  exact Ans.neg (by omega) (Ans.const _)
theorem all_ev (l m : List S58) (hb : l.length ≤ 1000000) : Ans (fun k => r09_SameAll.f k l m) (eqAll l m) := by
 unfold r09_SameAll.f
 by_cases hl : l.length = m.length
 ·refine Ans.pos (by omega) ?_
  have loop : ∀ d i : Nat, l.length = i + d → Ans (fun k => r09_SameAll.l0 k l m (i : Int)) (eqAll (l.drop i) (m.drop i)) := by
   intro d
   induction d with
   | zero =>
    intro i hi
    rw [List.drop_eq_nil_of_le (by omega), List.drop_eq_nil_of_le (by omega)]
    refine Ans.succ (g := fun _ => some (eqAll [] [])) (fun k => ?_) (Ans.const _)
    simp only [r09_SameAll.l0]
    rw [if_neg (by omega)]
    rfl
   | succ d ih =>
    intro i hi
    rw [eqAll_at l m i (by omega) hl]
    have hn := ih (i + 1) (by omega)
    cases hs : sameD (rd_T58 l (i : Int)) (rd_T58 m (i : Int)) with
    | true =>
     rw [Bool.true_and]
     refine Ans.succ (fun k => ?_) hn
     simp only [r09_SameAll.l0]
     unfold sameD at hs
     simp only [Bool.and_eq_true] at hs
     rw [if_pos (by omega), if_pos (by omega), if_pos (by omega), hs.1, hs.2.1, hs.2.2, wrap_on (by omega) (by omega)]
     rfl
    | false =>
     rw [Bool.false_and]
     refine Ans.succ (g := fun _ => some false) (fun k => ?_) (Ans.const _)
     simp only [r09_SameAll.l0]
     rw [if_pos (by omega), if_pos (by omega), if_pos (by omega), if_pos]
     unfold sameD at hs
     revert hs
     cases (rd_T58 l (i : Int)).f0 == (rd_T58 m (i : Int)).f0 <;> cases (rd_T58 l (i : Int)).f1 == (rd_T58 m (i : Int)).f1 <;> cases (rd_T58 l (i : Int)).f2.toList == (rd_T58 m (i : Int)).f2.toList <;> simp
  exact loop l.length 0 (by omega)
 ·rw [eqAll_len l m hl]
  exact Ans.neg (by omega) (Ans.const _)
theorem col_ev (a0 a1 : List Int) (a2 : List S58) (b0 b1 : List Int) (b2 : List S58) (h0 : a0.length ≤ 1000000) (h1 : a1.length ≤ 1000000) (h2 : a2.length ≤ 1000000) :
  Ans (fun k => r17_SameColumn.f k a0 a1 a2 b0 b1 b2) (decide (a0 = b0) && decide (a1 = b1) && eqAll a2 b2) := by
 unfold r17_SameColumn.f
 have e0 := ints_ev a0 b0 h0
 have e1 := ints_ev a1 b1 h1
 have e2 := all_ev a2 b2 h2
 by_cases g0 : a0 = b0
 ·rw [decide_eq_true g0] at e0 ⊢
  by_cases g1 : a1 = b1
  ·rw [decide_eq_true g1] at e1 ⊢
   rw [Bool.true_and, Bool.true_and]
   exact Ans.bind e0 (Ans.pos rfl (Ans.bind e1 (Ans.pos rfl (Ans.bind (g := fun _ t => some t) e2 (Ans.const _)))))
  ·rw [decide_eq_false g1] at e1 ⊢
   rw [Bool.true_and, Bool.false_and]
   exact Ans.bind e0 (Ans.pos rfl (Ans.bind e1 (Ans.neg (by decide) (Ans.const _))))
 ·rw [decide_eq_false g0] at e0 ⊢
  rw [Bool.false_and, Bool.false_and]
  exact Ans.bind e0 (Ans.neg (by decide) (Ans.const _))
theorem eqAll_same : ∀ l : List S58, eqAll l l = true
 | [] => rfl
 | x :: xs => by
  unfold eqAll
  rw [eqAll_same xs]
  simp [sameD]
theorem rows_ev (l0 l1 : List Int) (l2 : List S58) (hb : l0.length ≤ 1000000) : Ans (fun k => r17_Rows.f k l0 l1 l2) ((zs_ l0 l0.length).length : Int) := by
 unfold r17_Rows.f
 have loop : ∀ d i : Nat, l0.length = i + d → Ans (fun k => r17_Rows.l0 k ((zs_ l0 i).length : Int) (i : Int) l0 l1 l2) ((zs_ l0 l0.length).length : Int) := by
  intro d
  induction d with
  | zero =>
   intro i hi
   obtain rfl : i = l0.length := by omega
   refine Ans.succ (g := fun _ => some ((zs_ l0 l0.length).length : Int)) (fun k => ?_) (Ans.const _)
   simp only [r17_Rows.l0]
   rw [if_neg (by omega)]
  | succ d ih =>
   intro i hi
   have hn := ih (i + 1) (by omega)
   have hle := zs_le l0 i
   refine Ans.succ (fun k => ?_) hn
   simp only [r17_Rows.l0]
   rw [if_pos (by omega), if_pos (by omega), wrap_on (i := (i : Int) + 1) (by omega) (by omega)]
   by_cases hz : rd l0 (i : Int) = 0
   ·rw [if_pos hz, zs_hit l0 i hz, wrap_on (by omega) (by omega), List.length_append]
    rfl
   ·rw [if_neg hz, zs_miss l0 i hz]
    rfl
 exact loop l0.length 0 (by omega)
theorem lows_len (d : Int) : ∀ (st : List Int) (d : Int), (lows_ d st).length = c2 st
 | [], _ => rfl
 | s :: ss, d => by
  unfold lows_ c2
  split
  ·rw [List.length_cons, lows_len d ss]; omega
  ·rw [lows_len d ss]; omega
theorem lows_ge : ∀ (st : List Int) (d : Int) (x : Int), x ∈ lows_ d st → d ≤ x
 | [], _, x, h => by cases h
 | s :: ss, d, x, h => by
  unfold lows_ at h
  split at h
  ·rcases List.mem_cons.mp h with rfl | h
   ·omega
   ·have := lows_ge ss (d + 1) x h; omega
  ·have := lows_ge ss _ x h
   split at this <;> omega
theorem low_ev (p : List ByteArray) (st : List Int) (a b c e : Int) (hb : st.length ≤ 1000) (r : Nat) (hr0 : 0 < r) (hr : r ≤ c2 st) : Ans (fun k => r17_low.f k p st a b c e (r : Int)) (rd (0 :: lows_ 0 st) (r : Int)) := by
 unfold r17_low.f
 have loop : ∀ (rest pre : List Int) (n d : Nat), st = pre ++ rest → d ≤ pre.length → n ≤ r → r ≤ n + c2 rest → Ans (fun k => r17_low.l0 k (r : Int) (n : Int) (d : Int) (pre.length : Int) p st a b c e) ((((d : Int) :: lows_ (d : Int) rest).getD (r - n) 0)) := by
  intro rest
  induction rest with
  | nil =>
   intro pre n d he hd hn hr
   have hln : st.length = pre.length := by rw [he]; simp
   obtain rfl : n = r := by simp [c2] at hr; omega
   rw [Nat.sub_self]
   refine Ans.succ (g := fun k => r17_low.j1 k (n : Int) (n : Int) (d : Int) (pre.length : Int) false p st a b c e) (fun k => ?_) (Ans.succ (g := fun _ => some (d : Int)) (fun k => ?_) (Ans.const _))
   ·simp only [r17_low.l0]
    rw [if_neg (by omega)]
   ·simp only [r17_low.j1]
    rw [if_neg (by decide)]
  | cons s rest ih =>
   intro pre n d he hd hn hr
   have hln : st.length = pre.length + (rest.length + 1) := by rw [he]; simp
   have hrd : rd st (pre.length : Int) = s := by rw [he]; exact rd_midI _ _ _
   by_cases hnr : n = r
   ·subst hnr
    rw [Nat.sub_self]
    refine Ans.succ (g := fun k => r17_low.j1 k (n : Int) (n : Int) (d : Int) (pre.length : Int) false p st a b c e) (fun k => ?_) (Ans.succ (g := fun _ => some (d : Int)) (fun k => ?_) (Ans.const _))
    ·simp only [r17_low.l0]
     rw [if_pos (by omega), decide_eq_false (show ¬ (n : Int) < (n : Int) by omega)]
    ·simp only [r17_low.j1]
     rw [if_neg (by decide)]
   ·have hnr2 : (n : Int) < (r : Int) := by omega
    have hlt2 : (pre.length : Int) < (st.length : Int) := by omega
    have hn3 : n ≤ 1000 := by
     have := c2_le st
     omega
    have hd3 : d ≤ 1000 := by omega
    have HW : Hid (wrap64 ((pre.length : Int) + 1) = ((pre ++ [s]).length : Int)) := Lib.hid (by rw [wrap_on (by omega) (by omega)]; simp)
    have HWD : Hid (wrap64 ((d : Int) + 1) = ((d + 1 : Nat) : Int)) := Lib.hid (by rw [wrap_on (by omega) (by omega)]; omega)
    have HWN : Hid (wrap64 ((n : Int) + 1) = ((n + 1 : Nat) : Int)) := Lib.hid (by rw [wrap_on (by omega) (by omega)]; omega)
    have hj : ∀ v, Ans (fun k => r17_low.j1 k (r : Int) (n : Int) (d : Int) (pre.length : Int) true p st a b c e) v → Ans (fun k => r17_low.l0 k (r : Int) (n : Int) (d : Int) (pre.length : Int) p st a b c e) v := by
     intro v hv
     refine Ans.succ (g := fun k => r17_low.j1 k (r : Int) (n : Int) (d : Int) (pre.length : Int) true p st a b c e) (fun k => ?_) hv
     simp only [r17_low.l0]
     rw [if_pos hlt2, decide_eq_true hnr2]
    apply hj
    have e0 : ((d : Int) :: lows_ (d : Int) (s :: rest)).getD (r - n) 0 = (lows_ (d : Int) (s :: rest)).getD (r - n - 1) 0 := by
     obtain ⟨m, hm⟩ : ∃ m, r - n = m + 1 := ⟨r - n - 1, by omega⟩
     rw [hm]
     rfl
    rw [e0]
    by_cases h2 : s = 2
    ·have hrr : r ≤ n + 1 + c2 rest := by rw [c2, if_pos h2] at hr; omega
     have := ih (pre ++ [s]) (n + 1) (d + 1) (by rw [he]; simp) (by simp; omega) (by omega) hrr
     have e1 : lows_ (d : Int) (s :: rest) = ((d + 1 : Nat) : Int) :: lows_ ((d + 1 : Nat) : Int) rest := by rw [lows_, if_pos h2]; rfl
     rw [e1, show r - n - 1 = r - (n + 1) by omega]
     refine Ans.succ (fun k => ?_) this
     simp only [r17_low.j1]
     rw [if_pos trivial, if_pos (by omega), if_pos (by omega), hrd, if_neg (by omega), if_pos h2, HW.out, HWD.out, HWN.out]
    ·have hrr : r ≤ n + c2 rest := by rw [c2, if_neg h2] at hr; omega
     by_cases h0 : s = 0
     ·have := ih (pre ++ [s]) n d (by rw [he]; simp) (by simp; omega) hn hrr
      have e1 : lows_ (d : Int) (s :: rest) = lows_ (d : Int) rest := by rw [lows_, if_neg h2, if_pos h0]
      have e2 : ((d : Int) :: lows_ (d : Int) rest).getD (r - n) 0 = (lows_ (d : Int) rest).getD (r - n - 1) 0 := by
       obtain ⟨m, hm⟩ : ∃ m, r - n = m + 1 := ⟨r - n - 1, by omega⟩
       rw [hm]
       rfl
      rw [e2] at this
      rw [e1]
      refine Ans.succ (fun k => ?_) this
      simp only [r17_low.j1]
      rw [if_pos trivial, if_pos (by omega), if_pos (by omega), hrd, if_pos h0, if_neg h2, HW.out]
     ·have := ih (pre ++ [s]) n (d + 1) (by rw [he]; simp) (by simp; omega) hn hrr
      have e1 : lows_ (d : Int) (s :: rest) = lows_ ((d + 1 : Nat) : Int) rest := by rw [lows_, if_neg h2, if_neg h0]; rfl
      have e2 : (((d + 1 : Nat) : Int) :: lows_ ((d + 1 : Nat) : Int) rest).getD (r - n) 0 = (lows_ ((d + 1 : Nat) : Int) rest).getD (r - n - 1) 0 := by
       obtain ⟨m, hm⟩ : ∃ m, r - n = m + 1 := ⟨r - n - 1, by omega⟩
       rw [hm]
       rfl
      rw [e2] at this
      rw [e1]
      refine Ans.succ (fun k => ?_) this
      simp only [r17_low.j1]
      rw [if_pos trivial, if_pos (by omega), if_pos (by omega), hrd, if_neg h0, if_neg h2, HW.out, HWD.out]
 have := loop st [] 0 0 rfl (by omega) (by omega) (by omega)
 unfold rd
 rw [Int.toNat_natCast]
 exact this
theorem low_nn (st : List Int) (r : Int) : 0 ≤ rd (0 :: lows_ 0 st) r := by
 unfold rd
 rw [List.getD_eq_getElem?_getD]
 cases h : (0 :: lows_ 0 st)[r.toNat]? with
 | none => simp
 | some x =>
  have hm := List.mem_of_getElem? h
  rcases List.mem_cons.mp hm with rfl | hm
  ·simp
  ·exact lows_ge st 0 x hm
theorem okE_eq (st : List Int) (dfn r d : Int) : okE_ (0 :: lows_ 0 st) (c2 st : Nat) dfn r d = (decide (0 ≤ r) && decide (r ≤ (c2 st : Nat)) && decide (0 ≤ d) && decide (d ≤ dfn) && (decide (r = 0) || decide (rd (0 :: lows_ 0 st) r ≤ d))) := by
 have hnn := low_nn st r
 have hl : (0 :: lows_ 0 st).length = c2 st + 1 := by rw [List.length_cons, lows_len 0]
 unfold okE_
 rw [hl]
 by_cases h0 : 0 ≤ r
 ·by_cases h1 : r ≤ (c2 st : Nat)
  ·rw [decide_eq_true h0, decide_eq_true h1, decide_eq_true (show r < ((c2 st + 1 : Nat) : Int) by omega)]
   by_cases hr : r = 0
   ·subst hr
    have e : rd (0 :: lows_ 0 st) 0 = 0 := rfl
    rw [e]
    simp
   ·rw [decide_eq_false hr]
    by_cases h2 : rd (0 :: lows_ 0 st) r ≤ d
    ·rw [decide_eq_true h2, decide_eq_true (show 0 ≤ d by omega)]
     simp
    ·rw [decide_eq_false h2]
     simp
  ·rw [decide_eq_false h1]
   simp
 ·rw [decide_eq_false h0]
  simp
theorem rdata_ev (p : List ByteArray) (st : List Int) (rep dfn t0 t1 : Int) (l0 l1 : List Int) (l2 : List S58) (hb : l2.length ≤ 1000000) (hw : ∀ y, y ∈ l2 → -9223372036854775808 ≤ y.f1 ∧ y.f1 ≤ 9223372036854775807) :
  ∀ (rest pre : List S58), l2 = pre ++ rest → Ans (fun k => r17_Right.l1 k (pre.length : Int) p st rep dfn t0 t1 l0 l1 l2) (!rest.any (fun x => !ofT_ t0 t1 x)) := by
 intro rest
 induction rest with
 | nil =>
  intro pre e
  have hln : l2.length = pre.length := by rw [e]; simp
  refine Ans.succ (g := fun _ => some true) (fun k => ?_) (Ans.const _)
  simp only [r17_Right.l1]
  rw [if_neg (by omega)]
 | cons x rest ih =>
  intro pre e
  have hln : l2.length = pre.length + (rest.length + 1) := by rw [e]; simp
  have hrd : rd_T58 l2 (pre.length : Int) = x := by rw [e]; exact rd_midD _ _ _
  have ho := of_ev x t0 t1 (hw x (by rw [e]; simp))
  have hn := ih (pre ++ [x]) (by rw [e]; simp)
  refine Ans.succ (g := fun k => (r09_Of.f k x.f0 x.f1 x.f2 t0 t1).bind fun t217 => (if t217 = true then (r17_Right.l1 k ((pre ++ [x]).length : Int) p st rep dfn t0 t1 l0 l1 l2) else (some false))) (fun k => ?_) ?_
  ·simp only [r17_Right.l1]
   rw [if_pos (by omega), if_pos (by omega), hrd, wrap_on (by omega) (by omega)]
   simp
  ·rw [List.any_cons]
   cases hv : ofT_ t0 t1 x with
   | true =>
    rw [hv] at ho
    exact Ans.bind ho (Ans.pos rfl (by simpa using hn))
   | false =>
    rw [hv] at ho
    exact Ans.bind ho (Ans.neg (by decide) (by simpa using Ans.const false))
theorem right_loop (p : List ByteArray) (st : List Int) (dfn t0 t1 : Int) (l0 l1 : List Int) (l2 : List S58) (hst : st.length ≤ 1000) (hb1 : l1.length ≤ 1000000) (hb : l2.length ≤ 1000000) (hw : ∀ y, y ∈ l2 → -9223372036854775808 ≤ y.f1 ∧ y.f1 ≤ 9223372036854775807) :
  ∀ (r0 r1 p0 p1 : List Int), l0 = p0 ++ r0 → l1 = p1 ++ r1 → p0.length = p1.length → r0.length = r1.length → Ans (fun k => r17_Right.l0 k (cnt_ dfn p1 : Nat) (p0.length : Int) p st (c2 st : Nat) dfn t0 t1 l0 l1 l2) (okL_ (0 :: lows_ 0 st) (c2 st : Nat) dfn r0 r1 && (decide (cnt_ dfn l1 = l2.length) && !l2.any (fun x => !ofT_ t0 t1 x))) := by
 intro r0
 induction r0 with
 | nil =>
  intro r1 p0 p1 e0 e1 hp hr
  obtain rfl := List.eq_nil_of_length_eq_zero hr.symm
  have hln : l0.length = p0.length := by rw [e0]; simp
  have hp1 : p1 = l1 := by rw [e1]; simp
  rw [okL_, Bool.true_and, hp1]
  by_cases hc : cnt_ dfn l1 = l2.length
  ·rw [decide_eq_true hc, Bool.true_and]
   refine Ans.succ (fun k => ?_) (rdata_ev p st (c2 st : Nat) dfn t0 t1 l0 l1 l2 hb hw l2 [] rfl)
   simp only [r17_Right.l0]
   rw [if_neg (by omega), if_pos (by omega)]
   rfl
  ·rw [decide_eq_false hc, Bool.false_and]
   refine Ans.succ (g := fun _ => some false) (fun k => ?_) (Ans.const _)
   simp only [r17_Right.l0]
   rw [if_neg (by omega), if_neg (by omega)]
  simp [okL_]
 | cons r r0 ih =>
  intro r1 p0 p1 e0 e1 hp hr
  cases r1 with
  | nil => simp at hr
  | cons d r1 =>
   have hln : l0.length = p0.length + (r0.length + 1) := by rw [e0]; simp
   have hln1 : l1.length = p1.length + (r1.length + 1) := by rw [e1]; simp
   have q0 : rd l0 (p0.length : Int) = r := by rw [e0]; exact rd_midI _ _ _
   have q1 : rd l1 (p0.length : Int) = d := by rw [hp, e1]; exact rd_midI _ _ _
   have hcl := cnt_le dfn p1
   have hn := ih r1 (p0 ++ [r]) (p1 ++ [d]) (by rw [e0]; simp) (by rw [e1]; simp) (by simp; omega) (by simpa using hr)
   have hlow := fun (m : Nat) (h0 : 0 < m) (h1 : m ≤ c2 st) => low_ev p st (c2 st : Nat) dfn t0 t1 hst m h0 h1
   have H1 : Hid (wrap64 ((p0.length : Int) + 1) = ((p0 ++ [r]).length : Int)) := Lib.hid (by rw [wrap_on (by omega) (by omega)]; simp)
   have H2 : Hid (wrap64 (((cnt_ dfn p1 : Nat) : Int) + 1) = ((cnt_ dfn p1 + 1 : Nat) : Int)) := Lib.hid (by rw [wrap_on (by omega) (by omega)]; omega)
   have hcs : cnt_ dfn (p1 ++ [d]) = cnt_ dfn p1 + (if d = dfn then 1 else 0) := by rw [cnt_app]; simp [cnt_]
   rw [okL_, okE_eq]
   -- what is behind the test of one entry
   have hbad : Ans (fun k => r17_Right.j2 k (cnt_ dfn p1 : Nat) (p0.length : Int) d true p st (c2 st : Nat) dfn t0 t1 l0 l1 l2) false := Ans.succ (g := fun _ => some false) (fun k => by simp only [r17_Right.j2]; rw [if_pos trivial]) (Ans.const _)
   have hgood : Ans (fun k => r17_Right.j2 k (cnt_ dfn p1 : Nat) (p0.length : Int) d false p st (c2 st : Nat) dfn t0 t1 l0 l1 l2) (okL_ (0 :: lows_ 0 st) (c2 st : Nat) dfn r0 r1 && (decide (cnt_ dfn l1 = l2.length) && !l2.any (fun x => !ofT_ t0 t1 x))) := by
    rw [hcs] at hn
    by_cases hd : d = dfn
    ·rw [if_pos hd] at hn
     refine Ans.succ (fun k => ?_) hn
     simp only [r17_Right.j2]
     rw [if_neg (by decide), if_pos hd, H1.out, H2.out]
    ·rw [if_neg hd, Nat.add_zero] at hn
     refine Ans.succ (fun k => ?_) hn
     simp only [r17_Right.j2]
     rw [if_neg (by decide), if_neg hd, H1.out]
   have hlt0 : (p0.length : Int) < (l0.length : Int) := by omega
   have hlt1 : (p0.length : Int) < (l1.length : Int) := by omega
   by_cases k0 : r < 0
   ·rw [decide_eq_false (show ¬ 0 ≤ r by omega)]
    simp only [Bool.false_and]
    refine Ans.succ (fun k => ?_) hbad
    simp only [r17_Right.l0]
    rw [if_pos hlt0, if_pos (by omega), if_pos hlt1, q0, q1, if_pos k0]
   by_cases k1 : r > (c2 st : Nat)
   ·rw [decide_eq_false (show ¬ r ≤ (c2 st : Nat) by omega)]
    simp only [Bool.false_and, Bool.and_false]
    refine Ans.succ (fun k => ?_) hbad
    simp only [r17_Right.l0]
    rw [if_pos hlt0, if_pos (by omega), if_pos hlt1, q0, q1, if_neg k0, if_pos k1]
   by_cases k2 : d < 0
   ·rw [decide_eq_false (show ¬ 0 ≤ d by omega)]
    simp only [Bool.false_and, Bool.and_false]
    refine Ans.succ (fun k => ?_) hbad
    simp only [r17_Right.l0]
    rw [if_pos hlt0, if_pos (by omega), if_pos hlt1, q0, q1, if_neg k0, if_neg k1, if_pos k2]
   by_cases k3 : d > dfn
   ·rw [decide_eq_false (show ¬ d ≤ dfn by omega)]
    simp only [Bool.false_and, Bool.and_false]
    refine Ans.succ (fun k => ?_) hbad
    simp only [r17_Right.l0]
    rw [if_pos hlt0, if_pos (by omega), if_pos hlt1, q0, q1, if_neg k0, if_neg k1, if_neg k2, if_pos k3]
   rw [decide_eq_true (show 0 ≤ r by omega), decide_eq_true (show r ≤ (c2 st : Nat) by omega), decide_eq_true (show 0 ≤ d by omega), decide_eq_true (show d ≤ dfn by omega)]
   simp only [Bool.true_and]
   by_cases k4 : r > 0
   ·obtain ⟨m, rfl⟩ := Int.eq_ofNat_of_zero_le (show 0 ≤ r by omega)
    have hl := hlow m (by omega) (by omega)
    rw [decide_eq_false (show ¬ (m : Int) = 0 by omega), Bool.false_or]
    refine Ans.succ (g := fun k => (r17_low.f k p st (c2 st : Nat) dfn t0 t1 (m : Int)).bind fun t215 => (r17_Right.j2 k (cnt_ dfn p1 : Nat) (p0.length : Int) d (decide (d < t215)) p st (c2 st : Nat) dfn t0 t1 l0 l1 l2)) (fun k => ?_) (Ans.bind hl ?_)
    ·simp only [r17_Right.l0]
     rw [if_pos hlt0, if_pos (by omega), if_pos hlt1, q0, q1, if_neg k0, if_neg k1, if_neg k2, if_neg k3, if_pos k4]
    ·by_cases k5 : rd (0 :: lows_ 0 st) (m : Int) ≤ d
     ·rw [decide_eq_true k5, Bool.true_and, decide_eq_false (show ¬ d < rd (0 :: lows_ 0 st) (m : Int) by omega)]
      exact hgood
     ·rw [decide_eq_false k5, Bool.false_and, decide_eq_true (show d < rd (0 :: lows_ 0 st) (m : Int) by omega)]
      exact hbad
   ·rw [decide_eq_true (show r = 0 by omega), Bool.true_or, Bool.true_and]
    refine Ans.succ (fun k => ?_) hgood
    simp only [r17_Right.l0]
    rw [if_pos hlt0, if_pos (by omega), if_pos hlt1, q0, q1, if_neg k0, if_neg k1, if_neg k2, if_neg k3, if_neg k4]
theorem chk_dec (st : List Int) (rep dfn t0 t1 : Int) (l0 l1 : List Int) (l2 : List S58) : decide (chk_ st rep dfn t0 t1 l0 l1 l2 = 0) = (begin_ l0 l1 && (okL_ (0 :: lows_ 0 st) rep dfn l0 l1 && (decide (cnt_ dfn l1 = l2.length) && !l2.any (fun x => !ofT_ t0 t1 x)))) := by
 unfold chk_
 cases hb : begin_ l0 l1 <;> cases ho : okL_ (0 :: lows_ 0 st) rep dfn l0 l1 <;> cases ha : l2.any (fun x => !ofT_ t0 t1 x) <;> by_cases hc : cnt_ dfn l1 = l2.length <;> simp [hc]
theorem right_ev (p : List ByteArray) (st : List Int) (dfn t0 t1 : Int) (l0 l1 : List Int) (l2 : List S58) (hst : st.length ≤ 1000) (hb0 : l0.length ≤ 200) (hb1 : l1.length ≤ 200) (hb : l2.length ≤ 200) (hw : ∀ y, y ∈ l2 → -9223372036854775808 ≤ y.f1 ∧ y.f1 ≤ 9223372036854775807) :
  Ans (fun k => r17_Right.f k p st (c2 st : Nat) dfn t0 t1 l0 l1 l2) (decide (chk_ st (c2 st : Nat) dfn t0 t1 l0 l1 l2 = 0)) := by
 rw [chk_dec]
 unfold r17_Right.f begin_
 have hbad : Ans (fun k => r17_Right.j0 k true p st (c2 st : Nat) dfn t0 t1 l0 l1 l2) false := Ans.succ (g := fun _ => some false) (fun k => by simp only [r17_Right.j0]; rw [if_pos trivial]) (Ans.const _)
 by_cases hl : l0.length = l1.length
 ·have hgood : Ans (fun k => r17_Right.j0 k false p st (c2 st : Nat) dfn t0 t1 l0 l1 l2) (okL_ (0 :: lows_ 0 st) (c2 st : Nat) dfn l0 l1 && (decide (cnt_ dfn l1 = l2.length) && !l2.any (fun x => !ofT_ t0 t1 x))) := Ans.succ (fun k => by simp only [r17_Right.j0]; rw [if_neg (by decide)]; rfl) (right_loop p st dfn t0 t1 l0 l1 l2 hst (by omega) (by omega) hw l0 l1 [] [] rfl rfl rfl hl)
  have hli : (l0.length : Int) = (l1.length : Int) := by omega
  have h6 : (l0.length : Int) ≤ 65536 := by omega
  rw [decide_eq_true hli, decide_eq_true h6]
  refine Ans.pos hli (Ans.neg (show ¬ (l0.length : Int) > 65536 by omega) ?_)
  by_cases h0 : (l0.length : Int) > 0
  ·rw [decide_eq_false (show ¬ (l0.length : Int) = 0 by omega)]
   refine Ans.pos h0 (Ans.pos (show (0 : Int) < (l0.length : Int) by omega) ?_)
   by_cases hz : rd l0 0 = 0
   ·rw [decide_eq_true hz, bne_eq_false_iff_eq.mpr hz]
    simpa using hgood
   ·rw [decide_eq_false hz, bne_iff_ne.mpr hz]
    simpa using hbad
  ·rw [decide_eq_true (show (l0.length : Int) = 0 by omega)]
   exact Ans.neg h0 (by simpa using hgood)
 ·rw [decide_eq_false (show ¬ (l0.length : Int) = (l1.length : Int) by omega)]
  exact Ans.neg (by omega) (by simpa using hbad)
end Go.Proofs.Yteokhlpleimnbaa.ShrAid
end
section
/- The entries of some rows, as the document tells them, are the part of a column between two places at which rows begin. -/
namespace Go.Proofs.Yteokhlpleimnbaa.SlcAid
open Go.RowKit Go.Proofs.YteokhlpleimnbaaW.PrintWords Go.Proofs.YteokhlpleimnbaaW.PrintLast Go.Proofs.YteokhlpleimnbaaW.PrintMore Go.Proofs.Yteokhlpleimnbaa.H Go.Proofs.Yteokhlpleimnbaa.SchAid Go.Proofs.Yteokhlpleimnbaa.ShrAid
set_option linter.unusedVariables false
set_option linter.unusedSimpArgs false
theorem at_iff (l : List Int) (p i : Nat) (hi : i < l.length) (hp : p ≤ (zs_ l l.length).length) : (atL_ l).getD p 0 ≤ i ↔ p < (zs_ l (i + 1)).length := by
 obtain ⟨d, hd⟩ : ∃ d, l.length = i + 1 + d := ⟨l.length - (i + 1), by omega⟩
 have hz : zs_ l l.length = zs_ l (i + 1) ++ ((List.range d).map (fun x => i + 1 + x)).filter (fun j : Nat => decide (rd l (j : Int) = 0)) := by
  rw [hd]
  unfold zs_
  rw [List.range_add, List.filter_append]
 have hT : ∀ x, x ∈ ((List.range d).map (fun x => i + 1 + x)).filter (fun j : Nat => decide (rd l (j : Int) = 0)) ++ [l.length] → i + 1 ≤ x := by
  intro x hx
  rcases List.mem_append.mp hx with h | h
  ·obtain ⟨y, _, rfl⟩ := List.mem_map.mp (List.mem_filter.mp h).1
   omega
  ·simp at h
   omega
 have hat : atL_ l = zs_ l (i + 1) ++ (((List.range d).map (fun x => i + 1 + x)).filter (fun j : Nat => decide (rd l (j : Int) = 0)) ++ [l.length]) := by
  unfold atL_
  rw [hz, List.append_assoc]
 have hlen : (zs_ l l.length).length = (zs_ l (i + 1)).length + (((List.range d).map (fun x => i + 1 + x)).filter (fun j : Nat => decide (rd l (j : Int) = 0))).length := by rw [hz, List.length_append]
 rw [hat, List.getD_eq_getElem?_getD]
 by_cases h : p < (zs_ l (i + 1)).length
 ·rw [List.getElem?_append_left h, List.getElem?_eq_getElem h]
  have hm := List.getElem_mem h
  have h2 := (List.mem_filter.mp (show (zs_ l (i + 1))[p] ∈ (List.range (i + 1)).filter (fun j : Nat => decide (rd l (j : Int) = 0)) from hm)).1
  rw [List.mem_range] at h2
  simp only [Option.getD_some]
  omega
 ·rw [List.getElem?_append_right (by omega)]
  have hlt : p - (zs_ l (i + 1)).length < (((List.range d).map (fun x => i + 1 + x)).filter (fun j : Nat => decide (rd l (j : Int) = 0)) ++ [l.length]).length := by
   rw [List.length_append, List.length_singleton]
   omega
  rw [List.getElem?_eq_getElem hlt]
  have h2 := hT _ (List.getElem_mem hlt)
  simp only [Option.getD_some]
  omega
theorem part_in {α : Type} (l : List α) (a b i : Nat) (ha : a ≤ i) (hb : i < b) (hi : i < l.length) : (l.take (min (i + 1) b)).drop a = (l.take (min i b)).drop a ++ [l[i]] := by
 rw [show min (i + 1) b = i + 1 by omega, show min i b = i by omega, List.take_succ_eq_append_getElem hi, List.drop_append_of_le_length (by rw [List.length_take]; omega)]
theorem part_out {α : Type} (l : List α) (a b i : Nat) (h : ¬ (a ≤ i ∧ i < b)) : (l.take (min (i + 1) b)).drop a = (l.take (min i b)).drop a := by
 by_cases ha : a ≤ i
 ·rw [show min (i + 1) b = b by omega, show min i b = b by omega]
 ·rw [List.drop_eq_nil_of_le (by rw [List.length_take]; omega), List.drop_eq_nil_of_le (by rw [List.length_take]; omega)]
theorem slice_ev (p3 : List ByteArray) (st : List Int) (rep dfn t0 t1 : Int) (l0 l1 : List Int) (l2 : List S58) (p q : Nat) (hl : l0.length = l1.length) (hb : l0.length ≤ 200) (hc : cnt_ dfn l1 = l2.length) (hpq : p ≤ q) (hq : q ≤ (zs_ l0 l0.length).length) :
  Ans (fun k => r17_Slice.f k l0 l1 l2 (p : Int) (q : Int) p3 st rep dfn t0 t1) ((l0.take ((atL_ l0).getD q 0)).drop ((atL_ l0).getD p 0), (l1.take ((atL_ l0).getD q 0)).drop ((atL_ l0).getD p 0), (l2.take (cnt_ dfn (l1.take ((atL_ l0).getD q 0)))).drop (cnt_ dfn (l1.take ((atL_ l0).getD p 0)))) := by
 unfold r17_Slice.f
 have ha : ∀ i, i < l0.length → ((atL_ l0).getD p 0 ≤ i ↔ p < (zs_ l0 (i + 1)).length) := fun i hi => at_iff l0 p i hi (by omega)
 have hB : ∀ i, i < l0.length → ((atL_ l0).getD q 0 ≤ i ↔ q < (zs_ l0 (i + 1)).length) := fun i hi => at_iff l0 q i hi hq
 have hbn : (atL_ l0).getD q 0 ≤ l0.length := atL_max l0 (by simp [atL_]; omega)
 generalize (atL_ l0).getD p 0 = a at *
 generalize (atL_ l0).getD q 0 = b at *
 have loop : ∀ m i : Nat, l0.length = i + m → Ans (fun k => r17_Slice.l0 k (p : Int) (q : Int) (((zs_ l0 i).length : Int) - 1) (cnt_ dfn (l1.take i) : Nat) (i : Int) l0 l1 l2 p3 st rep dfn t0 t1 ((l0.take (min i b)).drop a) ((l1.take (min i b)).drop a) ((l2.take (cnt_ dfn (l1.take (min i b)))).drop (cnt_ dfn (l1.take a))))
   ((l0.take b).drop a, (l1.take b).drop a, (l2.take (cnt_ dfn (l1.take b))).drop (cnt_ dfn (l1.take a))) := by
  intro m
  induction m with
  | zero =>
   intro i hi
   rw [show min i b = b by omega]
   refine Ans.succ (g := fun _ => some ((l0.take b).drop a, (l1.take b).drop a, (l2.take (cnt_ dfn (l1.take b))).drop (cnt_ dfn (l1.take a)))) (fun k => ?_) (Ans.const _)
   simp only [r17_Slice.l0]
   rw [if_neg (by omega)]
  | succ m ih =>
   intro i hi
   have hi0 : i < l0.length := by omega
   have hi1 : i < l1.length := by omega
   have hn := ih (i + 1) (by omega)
   have haI := ha i hi0
   have hBI := hB i hi0
   have hle := zs_le l0 i
   have hle1 := zs_le l0 (i + 1)
   have hcn := cnt_next dfn l1 i hi1
   have hcm := cnt_take_all dfn l1 (i + 1)
   have hci := cnt_take_all dfn l1 i
   have e0 : rd l0 (i : Int) = l0[i] := by unfold rd; simp [List.getD, hi0]
   have e1 : rd l1 (i : Int) = l1[i] := by unfold rd; simp [List.getD, hi1]
   have H1 : Hid (wrap64 ((i : Int) + 1) = ((i + 1 : Nat) : Int)) := Lib.hid (by rw [wrap_on (by omega) (by omega)]; omega)
   have H2 : Hid (wrap64 (((cnt_ dfn (l1.take i) : Nat) : Int) + 1) = ((cnt_ dfn (l1.take i) + 1 : Nat) : Int)) := Lib.hid (by have h200 := cnt_le dfn l1; rw [wrap_on (by omega) (by omega)]; omega)
   have u0 : ((l0.take (min i b)).drop a).length ≤ 200 := by simp only [List.length_drop, List.length_take]; omega
   have u1 : ((l1.take (min i b)).drop a).length ≤ 200 := by simp only [List.length_drop, List.length_take]; omega
   have u2 : ((l2.take (cnt_ dfn (l1.take (min i b)))).drop (cnt_ dfn (l1.take a))).length ≤ 200 := by
    have h200 := cnt_le dfn l1
    simp only [List.length_drop, List.length_take]
    omega
   -- behind the count of rows
   have hj1 : Ans (fun k => r17_Slice.j1 k (p : Int) (q : Int) (((zs_ l0 (i + 1)).length : Int) - 1) (cnt_ dfn (l1.take i) : Nat) (i : Int) l0 l1 l2 p3 st rep dfn t0 t1 ((l0.take (min i b)).drop a) ((l1.take (min i b)).drop a) ((l2.take (cnt_ dfn (l1.take (min i b)))).drop (cnt_ dfn (l1.take a)))) ((l0.take b).drop a, (l1.take b).drop a, (l2.take (cnt_ dfn (l1.take b))).drop (cnt_ dfn (l1.take a))) := by
    by_cases hin : a ≤ i ∧ i < b
    ·have hp' : p < (zs_ l0 (i + 1)).length := haI.mp hin.1
     have hq' : ¬ q < (zs_ l0 (i + 1)).length := fun h => by have := hBI.mpr h; omega
     have hd : decide ((((zs_ l0 (i + 1)).length : Int) - 1) < (q : Int)) = true := decide_eq_true (by omega)
     refine Ans.succ (g := fun k => r17_Slice.j2 k (p : Int) (q : Int) (((zs_ l0 (i + 1)).length : Int) - 1) (cnt_ dfn (l1.take i) : Nat) (i : Int) true l0 l1 l2 p3 st rep dfn t0 t1 ((l0.take (min i b)).drop a) ((l1.take (min i b)).drop a) ((l2.take (cnt_ dfn (l1.take (min i b)))).drop (cnt_ dfn (l1.take a)))) (fun k => by
      simp only [r17_Slice.j1]
      rw [if_pos (show (((zs_ l0 (i + 1)).length : Int) - 1) ≥ (p : Int) by omega), hd]) ?_
     rw [part_in l0 a b i hin.1 hin.2 hi0, part_in l1 a b i hin.1 hin.2 hi1, ← e0, ← e1] at hn
     have hmin : min i b = i := by omega
     have hmin1 : min (i + 1) b = i + 1 := by omega
     have hca := cnt_take_le dfn l1 hin.1
     by_cases hd1 : rd l1 (i : Int) = dfn
     ·rw [if_pos hd1] at hcn
      have hlt2 : cnt_ dfn (l1.take i) < l2.length := by omega
      have ed : rd_T58 l2 ((cnt_ dfn (l1.take i) : Nat) : Int) = l2[cnt_ dfn (l1.take i)] := by unfold rd_T58; simp [List.getD, hlt2]
      rw [hmin1, hcn, List.take_succ_eq_append_getElem hlt2, List.drop_append_of_le_length (by rw [List.length_take]; omega), ← ed] at hn
      refine Ans.succ (fun k => ?_) hn
      simp only [r17_Slice.j2, r17_entry.f]
      rw [if_pos trivial, if_pos (by omega), if_pos (by omega), if_pos (by omega), if_pos (by omega), if_pos (by omega)]
      simp only [Option.bind_some]
      rw [if_pos hd1, if_pos (by omega), if_pos (by omega), if_pos (by omega), H1.out, H2.out, hmin]
     ·rw [if_neg hd1, Nat.add_zero (cnt_ dfn (l1.take i))] at hcn
      rw [hmin1, hcn] at hn
      refine Ans.succ (fun k => ?_) hn
      simp only [r17_Slice.j2, r17_entry.f]
      rw [if_pos trivial, if_pos (by omega), if_pos (by omega), if_pos (by omega), if_pos (by omega), if_pos (by omega)]
      simp only [Option.bind_some]
      rw [if_neg hd1, H1.out, hmin]
    ·have o2 : (l2.take (cnt_ dfn (l1.take (min (i + 1) b)))).drop (cnt_ dfn (l1.take a)) = (l2.take (cnt_ dfn (l1.take (min i b)))).drop (cnt_ dfn (l1.take a)) := by
      by_cases hai : a ≤ i
      ·rw [show min (i + 1) b = b by omega, show min i b = b by omega]
      ·have g1 := cnt_take_le dfn l1 (show min (i + 1) b ≤ a by omega)
       have g2 := cnt_take_le dfn l1 (show min i b ≤ a by omega)
       rw [List.drop_eq_nil_of_le (by rw [List.length_take]; omega), List.drop_eq_nil_of_le (by rw [List.length_take]; omega)]
     rw [part_out l0 a b i hin, part_out l1 a b i hin, o2] at hn
     have hj2 : Ans (fun k => r17_Slice.j2 k (p : Int) (q : Int) (((zs_ l0 (i + 1)).length : Int) - 1) (cnt_ dfn (l1.take i) : Nat) (i : Int) false l0 l1 l2 p3 st rep dfn t0 t1 ((l0.take (min i b)).drop a) ((l1.take (min i b)).drop a) ((l2.take (cnt_ dfn (l1.take (min i b)))).drop (cnt_ dfn (l1.take a)))) ((l0.take b).drop a, (l1.take b).drop a, (l2.take (cnt_ dfn (l1.take b))).drop (cnt_ dfn (l1.take a))) := by
      by_cases hd1 : rd l1 (i : Int) = dfn
      ·rw [if_pos hd1] at hcn
       rw [hcn] at hn
       refine Ans.succ (fun k => ?_) hn
       simp only [r17_Slice.j2]
       rw [if_neg (by decide), if_pos (by omega), if_pos (by omega), if_pos hd1, H1.out, H2.out]
      ·rw [if_neg hd1, Nat.add_zero (cnt_ dfn (l1.take i))] at hcn
       rw [hcn] at hn
       refine Ans.succ (fun k => ?_) hn
       simp only [r17_Slice.j2]
       rw [if_neg (by decide), if_pos (by omega), if_pos (by omega), if_neg hd1, H1.out]
     by_cases hp' : p < (zs_ l0 (i + 1)).length
     ·have hai : a ≤ i := haI.mpr hp'
      have hq' : q < (zs_ l0 (i + 1)).length := hBI.mp (by omega)
      have hd : decide ((((zs_ l0 (i + 1)).length : Int) - 1) < (q : Int)) = false := decide_eq_false (by omega)
      refine Ans.succ (fun k => ?_) hj2
      simp only [r17_Slice.j1]
      rw [if_pos (show (((zs_ l0 (i + 1)).length : Int) - 1) ≥ (p : Int) by omega), hd]
     ·refine Ans.succ (fun k => ?_) hj2
      simp only [r17_Slice.j1]
      rw [if_neg (show ¬ (((zs_ l0 (i + 1)).length : Int) - 1) ≥ (p : Int) by omega)]
   refine Ans.succ (fun k => ?_) hj1
   simp only [r17_Slice.l0]
   rw [if_pos (by omega), if_pos (by omega)]
   by_cases hz : rd l0 (i : Int) = 0
   ·have H3 : Hid (wrap64 ((((zs_ l0 i).length : Int) - 1) + 1) = ((zs_ l0 (i + 1)).length : Int) - 1) := Lib.hid (by rw [wrap_on (by omega) (by omega), zs_hit l0 i hz, List.length_append, List.length_singleton]; omega)
    rw [if_pos hz, H3.out]
   ·rw [if_neg hz, zs_miss l0 i hz]
 have h := loop l0.length 0 (by omega)
 have e2 : ((zs_ l0 0).length : Int) - 1 = -1 := by simp [zs_]
 rw [e2] at h
 simpa [cnt_] using h
end Go.Proofs.Yteokhlpleimnbaa.SlcAid
end
