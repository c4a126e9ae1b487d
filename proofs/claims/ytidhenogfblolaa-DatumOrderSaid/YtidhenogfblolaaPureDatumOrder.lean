/- Compare is an order (DatumOrder): it turns, is transitive, and what is the same is alike; at every three data. -/
import Derived.Test.YtidhenogfblolaaSayDatumOrder
import Derived.Test.YtidhenogfblolaaCmpAid
namespace Go.Proofs.Ytidhenogfblolaa.datumOrder
open Go.RowKit Go.Proofs.YtidhenogfblolaaW.PrintWords Go.Proofs.YtidhenogfblolaaW.PrintLast Go.Proofs.YtidhenogfblolaaW.PrintMore Go.Proofs.Ytidhenogfblolaa.H Go.Proofs.YtidhenogfblolaaO Go.Proofs.Ytidhenogfblolaa.DatAid Go.Proofs.Ytidhenogfblolaa.CmpAid Go.Proofs.YtidhenogfblolaaF
set_option linter.unusedVariables false
theorem int_f (a b : Int) : datum_order_int64.f a b = some (if a < b then -1 else if a > b then 1 else 0, true) := by
  unfold datum_order_int64.f cmp_Compare_int64.f cmp_isNaN_int64.f
  have h1 : (a != a) = false := by simp
  have h2 : (b != b) = false := by simp
  simp only [h1, h2]
  by_cases h : a < b
  · simp [h]
  · by_cases h' : a > b
    · simp [h, h']
    · simp [h, h']
def okD (k i : Int) (t : ByteArray) : Bool := datum_fine.v k i t && !(isReal k i t && nanD k i)
def kc (k i1 : Int) (t1 : ByteArray) (i2 : Int) (t2 : ByteArray) : Int :=
  if k = 4 ∨ k = 5 then fcmpI (rbits k i1) (rbits k i2) else if k = 6 ∨ k = 7 then sc t1.toList t2.toList else if i1 < i2 then -1 else if i1 > i2 then 1 else 0
def cv (k1 i1 : Int) (t1 : ByteArray) (k2 i2 : Int) (t2 : ByteArray) : Int × Bool := if okD k1 i1 t1 = true ∧ okD k2 i2 t2 = true ∧ k1 = k2 then (kc k1 i1 t1 i2 t2, true) else (0, false)
theorem cmp_f (k1 i1 : Int) (t1 : ByteArray) (k2 i2 : Int) (t2 : ByteArray) : datum_Compare.f k1 i1 t1 k2 i2 t2 = some (cv k1 i1 t1 k2 i2 t2) := by
  unfold datum_Compare.f cv okD kc
  rw [int_f]
  cases datum_fine.v k1 i1 t1 <;> cases datum_fine.v k2 i2 t2 <;> cases (isReal k1 i1 t1 && nanD k1 i1) <;> cases (isReal k2 i2 t2 && nanD k2 i2) <;> by_cases hk : k1 = k2 <;> simp [hk]
  subst hk
  by_cases h45 : k1 = 4 ∨ k1 = 5
  · simp [h45]
  · rw [if_neg h45, if_neg h45]
    by_cases h67 : k1 = 6 ∨ k1 = 7
    · rw [if_pos h67, if_pos h67, ← strI_sc]; rfl
    · rw [if_neg h67, if_neg h67]
theorem okD_num {k i : Int} {t : ByteArray} (h : okD k i t = true) (h45 : k = 4 ∨ k = 5) : (Ieee.double.read (rbits k i)).isNaN = false := by
  unfold okD at h
  rw [Bool.and_eq_true] at h
  have hr : isReal k i t = true := by unfold isReal; rw [h.1]; simpa using h45
  rw [hr] at h
  exact rbits_num k i (by simpa using h.2)
theorem fI_le {x y : Nat} (hx : (Ieee.double.read x).isNaN = false) (hy : (Ieee.double.read y).isNaN = false) : (fcmpI x y ≤ 0 ↔ FloatKind.f64.format.order x y ≠ some .gt) ∧ (fcmpI x y < 0 ↔ FloatKind.f64.format.order x y = some .lt) ∧ -1 ≤ fcmpI x y ∧ fcmpI x y ≤ 1 := by
  obtain ⟨o, ho⟩ := order_num hx hy
  unfold fcmpI
  rw [ho]
  cases o <;> simp [ordInt]
theorem fI_swap {x y : Nat} (hx : (Ieee.double.read x).isNaN = false) (hy : (Ieee.double.read y).isNaN = false) : fcmpI y x = - fcmpI x y := by
  have h : FloatKind.f64.format.order y x = (FloatKind.f64.format.order x y).map Ordering.swap := order_swap _ _ (nanIs hx) (nanIs hy)
  obtain ⟨o, ho⟩ := order_num hx hy
  unfold fcmpI
  rw [h, ho]
  cases o <;> rfl
theorem sc_range : ∀ x y : List UInt8, -1 ≤ sc x y ∧ sc x y ≤ 1
  | [], [] => by simp [sc]
  | [], _ :: _ => by simp [sc]
  | _ :: _, [] => by simp [sc]
  | x :: xs, y :: ys => by
    have ih := sc_range xs ys
    simp only [sc]
    split
    · omega
    · split <;> omega
theorem kc_range {k i1 i2 : Int} {t1 t2 : ByteArray} (h1 : okD k i1 t1 = true) (h2 : okD k i2 t2 = true) : -1 ≤ kc k i1 t1 i2 t2 ∧ kc k i1 t1 i2 t2 ≤ 1 := by
  unfold kc
  by_cases h45 : k = 4 ∨ k = 5
  · rw [if_pos h45]; exact (fI_le (okD_num h1 h45) (okD_num h2 h45)).2.2
  · rw [if_neg h45]
    by_cases h67 : k = 6 ∨ k = 7
    · rw [if_pos h67]; exact sc_range _ _
    · rw [if_neg h67]; split
      · omega
      · split <;> omega
theorem kc_swap {k i1 i2 : Int} {t1 t2 : ByteArray} (h1 : okD k i1 t1 = true) (h2 : okD k i2 t2 = true) : kc k i1 t1 i2 t2 = - kc k i2 t2 i1 t1 := by
  unfold kc
  by_cases h45 : k = 4 ∨ k = 5
  · rw [if_pos h45, if_pos h45]; exact fI_swap (okD_num h2 h45) (okD_num h1 h45)
  · rw [if_neg h45, if_neg h45]
    by_cases h67 : k = 6 ∨ k = 7
    · rw [if_pos h67, if_pos h67]; exact sc_swap _ _
    · rw [if_neg h67, if_neg h67]
      by_cases a : i1 < i2
      · rw [if_pos a, if_neg (by omega), if_pos a]
      · by_cases b : i2 < i1
        · rw [if_neg a, if_pos b, if_pos b]; rfl
        · rw [if_neg a, if_neg b, if_neg b, if_neg a]; rfl
theorem kc_refl {k i : Int} {t : ByteArray} (h : okD k i t = true) : kc k i t i t = 0 := by
  have := kc_swap h h
  omega
theorem kc_trans {k i1 i2 i3 : Int} {t1 t2 t3 : ByteArray} (h1 : okD k i1 t1 = true) (h2 : okD k i2 t2 = true) (h3 : okD k i3 t3 = true) :
    (kc k i1 t1 i2 t2 ≤ 0 → kc k i2 t2 i3 t3 ≤ 0 → kc k i1 t1 i3 t3 ≤ 0) ∧ (kc k i1 t1 i2 t2 < 0 → kc k i2 t2 i3 t3 ≤ 0 → kc k i1 t1 i3 t3 < 0) := by
  unfold kc
  by_cases h45 : k = 4 ∨ k = 5
  · simp only [if_pos h45]
    have n1 := okD_num h1 h45
    have n2 := okD_num h2 h45
    have n3 := okD_num h3 h45
    rw [(fI_le n1 n2).1, (fI_le n2 n3).1, (fI_le n1 n3).1, (fI_le n1 n2).2.1, (fI_le n1 n3).2.1]
    exact ⟨fun a b => order_le_trans _ _ _ (nanIs n1) (nanIs n2) (nanIs n3) a b, fun a b => order_lt_trans _ _ _ (nanIs n1) (nanIs n2) (nanIs n3) a b⟩
  · simp only [if_neg h45]
    by_cases h67 : k = 6 ∨ k = 7
    · simp only [if_pos h67]; exact sc_trans _ _ _
    · simp only [if_neg h67]
      refine ⟨fun a b => ?_, fun a b => ?_⟩
      · by_cases p : i1 < i3
        · rw [if_pos p]; omega
        · by_cases q : i1 > i3
          · exfalso
            by_cases u : i1 > i2
            · rw [if_neg (by omega), if_pos u] at a; omega
            · by_cases v : i2 > i3
              · rw [if_neg (by omega), if_pos v] at b; omega
              · omega
          · rw [if_neg p, if_neg q]; omega
      · have e : i1 < i2 := by
          by_cases u : i1 < i2
          · exact u
          · rw [if_neg u] at a
            split at a <;> omega
        have e2 : ¬ i2 > i3 := by
          intro v
          rw [if_neg (by omega), if_pos v] at b
          omega
        rw [if_pos (by omega)]; omega
theorem wrap_neg (y : Int) (h : -1 ≤ y) (h' : y ≤ 1) : wrap64 (-y) = -y := by
  unfold wrap64
  omega
theorem j1_ok (k i : Int) (t : ByteArray) (hi : -9223372036854775808 ≤ i ∧ i ≤ 9223372036854775807) : marquetrylaw09_DatumOrder.j1 2 false k i t = some true := by
  simp only [marquetrylaw09_DatumOrder.j1]
  have hn : datum_Nan.f k i t = some (isReal k i t && nanD k i) := rfl
  have hf := ref_fine k i t hi
  cases ho : okD k i t with
  | true =>
    have ecv : cv k i t k i t = (0, true) := by unfold cv; rw [if_pos ⟨ho, ho, rfl⟩, kc_refl ho]
    unfold okD at ho
    rw [Bool.and_eq_true, Bool.not_eq_true'] at ho
    rw [ho.1] at hf
    rw [ho.2] at hn
    rw [if_neg (by decide), bind_of (cmp_f k i t k i t), ecv, hf, hn]
    rfl
  | false =>
    have ecv : cv k i t k i t = (0, false) := by unfold cv; rw [if_neg (fun h => by rw [ho] at h; exact Bool.noConfusion h.1)]
    unfold okD at ho
    cases hfv : datum_fine.v k i t with
    | false =>
      rw [hfv] at hf
      rw [if_neg (by decide), bind_of (cmp_f k i t k i t), ecv, hf]
      rfl
    | true =>
      rw [hfv] at hf
      rw [hfv, Bool.true_and] at ho
      have hnn : (isReal k i t && nanD k i) = true := by
        cases hq : (isReal k i t && nanD k i) with
        | true => rfl
        | false => rw [hq] at ho; cases ho
      rw [hnn] at hn
      rw [if_neg (by decide), bind_of (cmp_f k i t k i t), ecv, hf, hn]
      rfl
theorem pure_ : Pure := by
  intro y0 y1 y2 h0 h1 h2
  obtain ⟨k1, i1, t1⟩ := y0
  obtain ⟨k2, i2, t2⟩ := y1
  obtain ⟨k3, i3, t3⟩ := y2
  obtain ⟨_, hi1, _⟩ := h0
  have r1 : -9223372036854775808 ≤ i1 ∧ i1 ≤ 9223372036854775807 := by simpa [Lit.wf, IntKind.min, IntKind.max, IntKind.signed, IntKind.bits] using hi1
  have hj := j1_ok k1 i1 t1 r1
  refine ⟨3, ?_⟩
  unfold marquetrylaw09_DatumOrder.f
  rw [bind_of (cmp_f _ _ _ _ _ _), bind_of (cmp_f _ _ _ _ _ _), bind_of (cmp_f _ _ _ _ _ _), bind_of (cmp_f _ _ _ _ _ _)]
  simp only []
  have hj0 : ∀ x ok z on w far, (ok = true → on = true → far = true ∧ (x ≤ 0 → z ≤ 0 → w ≤ 0) ∧ (x < 0 → z ≤ 0 → w < 0)) → marquetrylaw09_DatumOrder.j0 3 x ok z on w far false k1 i1 t1 = some true := by
    intro x ok z on w far h
    simp only [marquetrylaw09_DatumOrder.j0]
    rw [if_neg (by decide)]
    cases ok with
    | false => rw [if_neg (by decide)]; exact hj
    | true =>
      cases on with
      | false => rw [if_pos rfl, if_neg (by decide)]; exact hj
      | true =>
        obtain ⟨rfl, ha, hb⟩ := h rfl rfl
        rw [if_pos rfl, if_pos rfl, if_pos rfl]
        by_cases hx : x ≤ 0
        · rw [if_pos hx]
          by_cases hz : z ≤ 0
          · rw [if_pos hz, if_neg (by have := ha hx hz; omega)]
            by_cases hx' : x < 0
            · rw [if_pos hx', decide_eq_false (by have := hb hx' hz; omega)]; exact hj
            · rw [if_neg hx']; exact hj
          · rw [if_neg hz]
            split <;> exact hj
        · rw [if_neg hx, if_neg (by omega)]; exact hj
  by_cases hab : okD k1 i1 t1 = true ∧ okD k2 i2 t2 = true ∧ k1 = k2
  · obtain ⟨oa, ob, rfl⟩ := hab
    have e1 : cv k1 i1 t1 k1 i2 t2 = (kc k1 i1 t1 i2 t2, true) := by unfold cv; rw [if_pos ⟨oa, ob, rfl⟩]
    have e2 : cv k1 i2 t2 k1 i1 t1 = (kc k1 i2 t2 i1 t1, true) := by unfold cv; rw [if_pos ⟨ob, oa, rfl⟩]
    rw [e1, e2]
    simp only []
    have hr := kc_range ob oa
    rw [wrap_neg _ hr.1 hr.2, if_pos (kc_swap oa ob), if_neg (by decide), if_pos trivial]
    refine hj0 _ _ _ _ _ _ ?_
    intro _ hon
    by_cases hbc : okD k1 i2 t2 = true ∧ okD k3 i3 t3 = true ∧ k1 = k3
    · obtain ⟨_, oc, rfl⟩ := hbc
      have e3 : cv k1 i2 t2 k1 i3 t3 = (kc k1 i2 t2 i3 t3, true) := by unfold cv; rw [if_pos ⟨ob, oc, rfl⟩]
      have e4 : cv k1 i1 t1 k1 i3 t3 = (kc k1 i1 t1 i3 t3, true) := by unfold cv; rw [if_pos ⟨oa, oc, rfl⟩]
      rw [e3, e4]
      exact ⟨rfl, (kc_trans oa ob oc).1, (kc_trans oa ob oc).2⟩
    · exfalso
      unfold cv at hon
      rw [if_neg hbc] at hon
      cases hon
  · have e1 : cv k1 i1 t1 k2 i2 t2 = (0, false) := by unfold cv; rw [if_neg hab]
    have e2 : cv k2 i2 t2 k1 i1 t1 = (0, false) := by unfold cv; rw [if_neg (fun h => hab ⟨h.2.1, h.1, h.2.2.symm⟩)]
    rw [e1, e2]
    simp only []
    rw [if_pos (show (0 : Int) = wrap64 (-0) from (wrap_neg 0 (by omega) (by omega)).symm), if_neg (by decide), if_neg (by decide)]
    exact hj0 _ _ _ _ _ _ (fun h => by cases h)
end Go.Proofs.Ytidhenogfblolaa.datumOrder
