/- Texts of the claim, packed: PureRangesSound. -/
import Derived.Test.YtncehlbhjoejhaaZRangesSound4
import Derived.Test.YtncehlbhjoejhaaZRangesSound11
import Derived.Test.YtncehlbhjoejhaaZRangesSound18
import Derived.Test.YtncehlbhjoejhaaZRangesSound21
import Derived.Test.YtncehlbhjoejhaaZRangesSound27
section
/- If a row has a condition, it may be true by what is known of all, and what is known may be (RangesSound), at every type, data and condition. -/
namespace Go.Proofs.Ytncehlbhjoejhaa.rangesSound
open Go.RowKit Go.Proofs.YtncehlbhjoejhaaW.PrintWords Go.Proofs.YtncehlbhjoejhaaW.PrintLast Go.Proofs.YtncehlbhjoejhaaW.PrintMore Go.Proofs.Ytncehlbhjoejhaa.H Go.Proofs.YtncehlbhjoejhaaO Go.Proofs.Ytncehlbhjoejhaa.RngOrd Go.Proofs.Ytncehlbhjoejhaa.RngSnd
set_option linter.unusedVariables false
set_option linter.unusedSimpArgs false
theorem wrap_next (i : Nat) (h : i < 1000000000000000) : wrap64 ((i : Int) + 1) = ((i + 1 : Nat) : Int) := by
  unfold wrap64
  omega
theorem rd_at (l : List S29) (i : Nat) (h : i < l.length) : rd_T29 l (i : Int) = l[i] := by
  unfold rd_T29
  rw [Int.toNat_natCast, List.getD_eq_getElem?_getD, List.getElem?_eq_getElem h]
  rfl
theorem bytes_some (l : List S29) (hl : l.length ≤ 100) : ∀ d j K : Nat, ∀ n : Int, l.length = j + d → d < K → ∃ v, marquetrylaw22_bytes.l0 K l n (j : Int) = some v := by
  intro d
  induction d with
  | zero =>
    intro j K n hj hK
    obtain ⟨K, rfl⟩ : ∃ K', K = K' + 1 := ⟨K - 1, by omega⟩
    simp only [marquetrylaw22_bytes.l0]
    rw [if_neg (by omega)]
    exact ⟨_, rfl⟩
  | succ d ih =>
    intro j K n hj hK
    obtain ⟨K, rfl⟩ : ∃ K', K = K' + 1 := ⟨K - 1, by omega⟩
    simp only [marquetrylaw22_bytes.l0]
    rw [if_pos (by omega)]
    split
    · rw [if_pos (by omega), wrap_next j (by omega)]
      exact ih (j + 1) K _ (by omega) (by omega)
    · exact ⟨_, rfl⟩
def isV (op : Int) (c : Int × Bool) : Bool :=
  if op = 6 then c.2 && (c.1 == 0) else if op = 7 then c.2 && (c.1 != 0) else if op = 8 then c.2 && decide (c.1 < 0) else if op = 9 then c.2 && decide (c.1 ≤ 0) else if op = 10 then c.2 && decide (c.1 > 0) else if op = 11 then c.2 && decide (c.1 ≥ 0) else op == 5
theorem is_f (op k1 i1 : Int) (t1 : ByteArray) (k2 i2 : Int) (t2 : ByteArray) : marquetrylaw22_is.f op k1 i1 t1 k2 i2 t2 = some (isV op (cv k1 i1 t1 k2 i2 t2)) := by
  unfold marquetrylaw22_is.f isV
  rw [cmp_f]
  simp only [Option.bind_some]
  generalize cv k1 i1 t1 k2 i2 t2 = c
  obtain ⟨c1, c2⟩ := c
  cases c2
  all_goals
    repeat' split
    all_goals simp_all
theorem l1_loop (l : List S29) (n t0 t1 op k i : Int) (t : ByteArray) (rows s0 : Int) (s1 : Bool) (s2 s3 : ByteArray) (M : Bool) (hl : l.length ≤ 100) (hM : ranges_May.f op k i t t0 t1 (wrap64 (n + (l.length : Int))) s0 s1 s2 s3 = some M)
    (hd : ∀ x ∈ l, isV op (cv x.f0 x.f1 x.f2 k i t) = true → M = true) : ∀ d j K : Nat, ∀ b : Bool, l.length = j + d → d < K → (b = true → M = true) → marquetrylaw22_RangesSound.l1 K l n b (j : Int) t0 t1 op k i t rows s0 s1 s2 s3 = some true := by
  intro d
  induction d with
  | zero =>
    intro j K b hj hK hb
    obtain ⟨K, rfl⟩ : ∃ K', K = K' + 1 := ⟨K - 1, by omega⟩
    simp only [marquetrylaw22_RangesSound.l1]
    rw [if_neg (by omega)]
    cases b with
    | false => rfl
    | true =>
      rw [if_pos rfl, hM, hb rfl]
      rfl
  | succ d ih =>
    intro j K b hj hK hb
    obtain ⟨K, rfl⟩ : ∃ K', K = K' + 1 := ⟨K - 1, by omega⟩
    simp only [marquetrylaw22_RangesSound.l1]
    rw [if_pos (by omega), wrap_next j (by omega)]
    cases b with
    | true =>
      rw [if_pos rfl]
      exact ih (j + 1) K true (by omega) (by omega) hb
    | false =>
      rw [if_neg (by decide), if_pos (by omega), is_f]
      simp only [Option.bind_some]
      refine ih (j + 1) K _ (by omega) (by omega) (fun h => ?_)
      rw [rd_at l j (by omega)] at h
      exact hd _ (List.getElem_mem (by omega)) h
theorem may_of {t0 t1 : Int} {l : List S29} {nulls op k i : Int} {t : ByteArray} (hc : datum_Check.v t0 t1 = 0) (h0 : 0 ≤ nulls) (h1 : nulls ≤ 1000) (hlen : l.length ≤ 100) (hall : ∀ x ∈ l, ofB t0 t1 x = true)
    (hw : 6 ≤ op → op ≤ 11 → ofB t0 t1 ⟨k, i, t⟩ = true) (x : S29) (hx : x ∈ l) (his : isV op (cv x.f0 x.f1 x.f2 k i t) = true) :
    mayV op k i t t0 t1 (nulls + (l.length : Int)) (ofV t0 l nulls).1 (ofV t0 l nulls).2.1 (ofV t0 l nulls).2.2.1 (ofV t0 l nulls).2.2.2 = true := by
  have hpos : 0 < l.length := List.length_pos_of_mem hx
  unfold mayV
  rw [of_check hc h0 (by omega) hall, if_neg (by decide), if_neg (by omega), of_first]
  by_cases h5 : op = 5
  · subst h5
    rw [if_neg (by decide), if_pos rfl]
    exact decide_eq_true (by omega)
  by_cases hr : 6 ≤ op ∧ op ≤ 11
  · rw [if_neg (by omega), if_neg h5, if_neg (by omega)]
    have hwant := hw hr.1 hr.2
    have hcv : (cv x.f0 x.f1 x.f2 k i t).2 = true := by
      unfold isV at his
      cases h : (cv x.f0 x.f1 x.f2 k i t).2 with
      | true => rfl
      | false =>
        rw [h] at his
        have h6 : op = 6 ∨ op = 7 ∨ op = 8 ∨ op = 9 ∨ op = 10 ∨ op = 11 := by omega
        rcases h6 with rfl | rfl | rfl | rfl | rfl | rfl <;> simp at his
    have hok : okD x.f0 x.f1 x.f2 = true ∧ okD k i t = true ∧ x.f0 = k := by
      unfold cv at hcv
      split at hcv
      · assumption
      · cases hcv
    obtain ⟨ox, ow, hkk⟩ := hok
    have hk0 : k = t0 := (okD_nan hwant).1
    have hx0 : x.f0 = t0 := hkk.trans hk0
    subst hk0
    have hmem : x ∈ l.filter (fun x => !nanV x) := by
      refine List.mem_filter.mpr ⟨hx, ?_⟩
      cases hn : nanV x with
      | false => rfl
      | true =>
        have ho := hall x hx
        obtain ⟨xk, xi, xt⟩ := x
        have h2 := (okD_nan ho).2.2 hn
        rw [h2] at ox
        cases ox
    obtain ⟨i1, u1, i2, u2, e, r1, r2, o1, o2, z1, z2, hk, _⟩ := of_ends (nulls := nulls) hall (List.ne_nil_of_mem hmem)
    rw [e]
    simp only
    rw [if_neg (by rw [hwant]; decide), if_neg (by rw [ow]; decide), if_neg (by decide), if_neg (by omega), r1, r2]
    simp only
    have hkx := hk x hmem
    rw [hx0] at ox
    have e1 : cv k i1 u1 k i t = (kc k i1 u1 i t, true) := by unfold cv; rw [if_pos ⟨o1, ow, rfl⟩]
    have e2 : cv k i2 u2 k i t = (kc k i2 u2 i t, true) := by unfold cv; rw [if_pos ⟨o2, ow, rfl⟩]
    have e3 : cv x.f0 x.f1 x.f2 k i t = (kc k x.f1 x.f2 i t, true) := by unfold cv; rw [hx0, if_pos ⟨ox, ow, rfl⟩]
    rw [e3] at his
    rw [e1, e2]
    simp only
    have ta := kc_trans o1 ox ow
    have tb := kc_trans ow ox o2
    have s1 := kc_swap o2 ow
    have s2 := kc_swap ox ow
    have s3 := kc_swap o1 ow
    have tc := kc_trans ow o1 ox
    have td := kc_trans ox o2 ow
    unfold isV at his
    unfold cV
    have h6 : op = 6 ∨ op = 7 ∨ op = 8 ∨ op = 9 ∨ op = 10 ∨ op = 11 := by omega
    generalize kc k i1 u1 i t = A at *
    generalize kc k i2 u2 i t = B at *
    generalize kc k x.f1 x.f2 i t = C at *
    generalize kc k i t i2 u2 = B' at *
    generalize kc k i t x.f1 x.f2 = C' at *
    generalize kc k i t i1 u1 = A' at *
    rcases h6 with rfl | rfl | rfl | rfl | rfl | rfl
    · simp at his
      have a1 := ta.1 hkx.1 (by omega)
      have b1 := tb.1 (by omega) hkx.2
      simp
      omega
    · simp at his
      by_cases hA : A = 0
      · by_cases hB : B = 0
        · exfalso
          have c1 := tc.1 (by omega) hkx.1
          have c2 := td.1 hkx.2 (by omega)
          omega
        · simp [hB]
      · simp [hA]
    · simp at his
      have : A < 0 := by
        by_cases hA : A < 0
        · exact hA
        · exfalso
          have c1 := tc.1 (by omega) hkx.1
          omega
      simp [this]
    · simp at his
      have a1 := ta.1 hkx.1 (by omega)
      simp [a1]
    · simp at his
      have b1 := tb.2 (by omega) hkx.2
      simp
      omega
    · simp at his
      have b1 := tb.1 (by omega) hkx.2
      simp
      omega
  · exfalso
    unfold isV at his
    rw [if_neg (by omega), if_neg (by omega), if_neg (by omega), if_neg (by omega), if_neg (by omega), if_neg (by omega)] at his
    exact h5 (by simpa using his)
theorem at_end (l : List S29) (t0 t1 op k i : Int) (t : ByteArray) (rows : Int) (hlen : l.length ≤ 100) (hc : datum_Check.v t0 t1 = 0) (h0 : 0 ≤ rows) (h1 : rows ≤ 1000) (hall : ∀ x ∈ l, ofB t0 t1 x = true) (K : Nat) (hK : 110 ≤ K) :
    marquetrylaw22_RangesSound.l0 K l (l.length : Int) t0 t1 op k i t rows = some true := by
  obtain ⟨K, rfl⟩ : ∃ K', K = K' + 5 := ⟨K - 5, by omega⟩
  simp only [marquetrylaw22_RangesSound.l0]
  rw [if_neg (by omega), of_f (by omega) hc h0 (by omega) hall]
  simp only [Option.bind_some]
  have hsm := of_small t0 l rows
  have hck := of_check hc h0 (by omega : rows ≤ 65536) hall
  rw [check_f _ _ _ _ _ _ (by omega) (by omega), hck]
  simp only [Option.bind_some, marquetrylaw22_num.f]
  rw [if_pos trivial]
  have hne : ((ofV t0 l rows).1 != rows) = false := by rw [of_first]; simp
  rw [hne]
  have hmay := fun op => may_f op k i t t0 t1 (rows + (l.length : Int)) (ofV t0 l rows).1 (ofV t0 l rows).2.1 (ofV t0 l rows).2.2.1 (ofV t0 l rows).2.2.2 (by omega) (by omega)
  have hwr : wrap64 (rows + (l.length : Int)) = rows + (l.length : Int) := by unfold wrap64; omega
  have hj3 : (6 ≤ op → op ≤ 11 → ofB t0 t1 ⟨k, i, t⟩ = true) → marquetrylaw22_RangesSound.j3 (K + 3) l rows false t0 t1 op k i t rows (ofV t0 l rows).1 (ofV t0 l rows).2.1 (ofV t0 l rows).2.2.1 (ofV t0 l rows).2.2.2 = some true := by
    intro hw
    have h4 : ∀ b : Bool, (b = true → op = 4 ∧ rows > 0) → marquetrylaw22_RangesSound.j4 (K + 2) l rows b t0 t1 op k i t rows (ofV t0 l rows).1 (ofV t0 l rows).2.1 (ofV t0 l rows).2.2.1 (ofV t0 l rows).2.2.2 = some true := by
      intro b hb
      simp only [marquetrylaw22_RangesSound.j4]
      refine l1_loop l rows t0 t1 op k i t rows _ _ _ _ _ hlen (by rw [hwr]; exact hmay op) (fun x hx his => may_of hc h0 h1 hlen hall hw x hx his) l.length 0 (K + 1) b (by omega) (by omega) (fun h => ?_)
      obtain ⟨rfl, hr⟩ := hb h
      unfold mayV
      rw [hck, if_neg (by decide), if_neg (by omega), if_pos rfl, of_first]
      exact decide_eq_true hr
    simp only [marquetrylaw22_RangesSound.j3]
    rw [if_neg (by decide)]
    by_cases ho : op = 4
    · rw [if_pos ho]
      exact h4 _ (fun h => ⟨ho, of_decide_eq_true h⟩)
    · rw [if_neg ho]
      exact h4 _ (fun h => by cases h)
  simp only [marquetrylaw22_RangesSound.j2]
  rw [if_neg (by decide)]
  by_cases h6 : op ≥ 6
  · rw [if_pos h6]
    by_cases h11 : op ≤ 11
    · rw [if_pos h11, of_val t0 t1 ⟨k, i, t⟩]
      simp only [Option.bind_some]
      cases hof : ofB t0 t1 ⟨k, i, t⟩ with
      | false =>
        simp only [marquetrylaw22_RangesSound.j3]
        rfl
      | true => exact hj3 (fun _ _ => hof)
    · rw [if_neg h11]
      exact hj3 (fun _ h => absurd h h11)
  · rw [if_neg h6]
    exact hj3 (fun h _ => absurd h h6)
theorem l0_loop (l : List S29) (t0 t1 op k i : Int) (t : ByteArray) (rows : Int) (hlen : l.length ≤ 100) (hc : datum_Check.v t0 t1 = 0) (h0 : 0 ≤ rows) (h1 : rows ≤ 1000) :
    ∀ d j K : Nat, l.length = j + d → (∀ x ∈ l.take j, ofB t0 t1 x = true) → d + 110 ≤ K → marquetrylaw22_RangesSound.l0 K l (j : Int) t0 t1 op k i t rows = some true := by
  intro d
  induction d with
  | zero =>
    intro j K hj hall hK
    have e : l.take j = l := List.take_of_length_le (by omega)
    rw [e] at hall
    obtain rfl : j = l.length := by omega
    exact at_end l t0 t1 op k i t rows hlen hc h0 h1 hall K (by omega)
  | succ d ih =>
    intro j K hj hall hK
    obtain ⟨K, rfl⟩ : ∃ K', K = K' + 1 := ⟨K - 1, by omega⟩
    simp only [marquetrylaw22_RangesSound.l0]
    rw [if_pos (by omega), if_pos (by omega), rd_at l j (by omega), of_val t0 t1 l[j]]
    simp only [Option.bind_some]
    cases hof : ofB t0 t1 l[j] with
    | false => rfl
    | true =>
      rw [if_pos rfl, wrap_next j (by omega)]
      refine ih (j + 1) K (by omega) ?_ (by omega)
      intro x hx
      rw [List.take_succ_eq_append_getElem (by omega)] at hx
      rcases List.mem_append.mp hx with hx | hx
      · exact hall x hx
      · rw [List.mem_singleton.mp hx]; exact hof
theorem pure_ : Pure := by
  intro y0 y1 y2 h0 h1 h2
  obtain ⟨t0, t1⟩ := y0
  obtain ⟨op, ⟨k, i, t⟩, rows⟩ := y2
  refine ⟨300, ?_⟩
  unfold marquetrylaw22_RangesSound.f
  simp only
  have hT : marquetrylaw22_RangesSound.j0 300 y1 true t0 t1 op k i t rows = some true := by
    simp only [marquetrylaw22_RangesSound.j0]
    rfl
  split
  · exact hT
  · rename_i hl
    have hl' : y1.length ≤ 100 := by omega
    obtain ⟨v, hv⟩ := bytes_some y1 hl' y1.length 0 300 0 (by omega) (by omega)
    have hv' : marquetrylaw22_bytes.f 300 y1 = some v := hv
    rw [hv']
    simp only [Option.bind_some]
    split
    · exact hT
    · split
      · exact hT
      · split
        · exact hT
        · rename_i hr0 hr1
          have e1 : datum_Check.f t0 t1 = some (datum_Check.v t0 t1) := rfl
          rw [e1]
          simp only [Option.bind_some, marquetrylaw22_num.f]
          by_cases hc : datum_Check.v t0 t1 = 0
          · rw [hc]
            simp only [marquetrylaw22_RangesSound.j0]
            rw [if_neg (by decide)]
            exact l0_loop y1 t0 t1 op k i t rows hl' hc (by omega) (by omega) y1.length 0 299 (by omega) (fun x hx => by simp at hx) (by omega)
          · have hb : (datum_Check.v t0 t1 != 0) = true := by simpa using hc
            rw [hb]
            exact hT
end Go.Proofs.Ytncehlbhjoejhaa.rangesSound
end
