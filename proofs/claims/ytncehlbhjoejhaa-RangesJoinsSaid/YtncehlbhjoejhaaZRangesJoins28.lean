/- Texts of the claim, packed: PureRangesJoins. -/
import Derived.Test.YtncehlbhjoejhaaZRangesJoins18
import Derived.Test.YtncehlbhjoejhaaZRangesJoins22
import Derived.Test.YtncehlbhjoejhaaZRangesJoins25
import Derived.Test.YtncehlbhjoejhaaZRangesJoins27
section
/- What is known of several together is what the document says (RangesJoins), at every type and every list of what is known. -/
namespace Go.Proofs.Ytncehlbhjoejhaa.rangesJoins
open Go.RowKit Go.Proofs.YtncehlbhjoejhaaW.PrintWords Go.Proofs.YtncehlbhjoejhaaW.PrintLast Go.Proofs.YtncehlbhjoejhaaW.PrintMore Go.Proofs.Ytncehlbhjoejhaa.H Go.Proofs.YtncehlbhjoejhaaO Go.Proofs.Ytncehlbhjoejhaa.RngOrd Go.Proofs.Ytncehlbhjoejhaa.RngSnd Go.Proofs.Ytncehlbhjoejhaa.RngOf
set_option linter.unusedVariables false
set_option linter.unusedSimpArgs false
theorem rd31_at (l : List S31) (i : Nat) (h : i < l.length) : rd_T31 l (i : Int) = l[i] := by
 unfold rd_T31
 rw [Int.toNat_natCast, List.getD_eq_getElem?_getD, List.getElem?_eq_getElem h]
 rfl
def tot : List S31 → Int
 | [] => 0
 | x :: xs => (x.f2.size : Int) + (x.f3.size : Int) + tot xs
theorem tot_nonneg : ∀ l, 0 ≤ tot l
 | [] => Int.le_refl _
 | x :: xs => by
  have := tot_nonneg xs
  unfold tot
  omega
theorem tot_each : ∀ l : List S31, tot l ≤ 10000 → ∀ x ∈ l, x.f2.size ≤ 10000 ∧ x.f3.size ≤ 10000
 | [], _, _, hx => by cases hx
 | y :: ys, h, x, hx => by
  have h0 := tot_nonneg ys
  unfold tot at h
  rcases List.mem_cons.mp hx with rfl | hx
  ·omega
  ·exact tot_each ys (by omega) x hx
def Big (l : List S31) : Prop := ∀ x ∈ l, x.f2.size ≤ 140737488351232 ∧ x.f3.size ≤ 140737488351232
theorem sum_loop (l : List S31) (hb : Big l) (t0 t1 : Int) : ∀ d j K : Nat, ∀ n : Int, j + d = (if l.length ≤ 20 then l.length else 21) → d < K → 0 ≤ n → n ≤ j * 300000000000000 → ∃ K' n', K ≤ K' + d + 1 ∧ marquetrylaw22_RangesJoins.l0 K l n (j : Int) t0 t1 = marquetrylaw22_RangesJoins.j1 K' l n' t0 t1 ∧ (l.length ≤ 20 → n' = n + tot (l.drop j)) := by
 intro d
 induction d with
 | zero =>
  intro j K n hj hK h0 hn
  obtain ⟨K, rfl⟩ : ∃ K', K = K' + 1 := ⟨K - 1, by omega⟩
  refine ⟨K, n, by omega, ?_, fun h => ?_⟩
  ·simp only [marquetrylaw22_RangesJoins.l0]
   by_cases hl : l.length ≤ 20
   ·rw [if_pos hl] at hj
    rw [if_neg (show ¬ (j : Int) < (l.length : Int) by omega)]
   ·rw [if_neg hl] at hj
    by_cases hA : (j : Int) < (l.length : Int)
    ·rw [if_pos hA, if_neg (show ¬ (j : Int) ≤ 20 by omega)]
    ·rw [if_neg hA]
  ·rw [if_pos h] at hj
   rw [List.drop_eq_nil_of_le (by omega)]
   simp [tot]
 | succ d ih =>
  intro j K n hj hK h0 hn
  obtain ⟨K, rfl⟩ : ∃ K', K = K' + 1 := ⟨K - 1, by omega⟩
  have hjl : j < l.length ∧ j ≤ 20 := by
   by_cases hl : l.length ≤ 20
   ·rw [if_pos hl] at hj; omega
   ·rw [if_neg hl] at hj; omega
  have hx := hb l[j] (List.getElem_mem hjl.1)
  have hw1 : wrap64 (n + ((l[j]).f2.size : Int)) = n + (l[j]).f2.size := by unfold wrap64; omega
  have hw2 : wrap64 (n + ((l[j]).f2.size : Int) + ((l[j]).f3.size : Int)) = n + (l[j]).f2.size + (l[j]).f3.size := by unfold wrap64; omega
  obtain ⟨K', n', h1, h2, h3⟩ := ih (j + 1) K (n + (l[j]).f2.size + (l[j]).f3.size) (by omega) (by omega) (by omega) (by push_cast; omega)
  refine ⟨K', n', by omega, ?_, fun h => ?_⟩
  ·simp only [marquetrylaw22_RangesJoins.l0]
   rw [if_pos (by omega), if_pos (by omega), if_pos (by omega), rd31_at l j hjl.1, hw1, hw2, RngOf.wrap_next j (by omega), h2]
  ·have e : tot (l[j] :: l.drop (j + 1)) = (l[j].f2.size : Int) + (l[j].f3.size : Int) + tot (l.drop (j + 1)) := rfl
   rw [h3 h, List.drop_eq_getElem_cons hjl.1, e]
   omega
theorem of_total (t0 t1 n : Int) (l : List S29) (hl : l.length ≤ 1000000) : ∃ v, ranges_Of.f t0 t1 l n = some v := by
 by_cases hc : datum_Check.v t0 t1 = 0
 ·by_cases h0 : n < 0
  ·exact ⟨noStats, by unfold ranges_Of.f; rw [if_pos hl, if_neg (not_not_intro hc), if_pos h0]⟩
  ·by_cases h6 : n > 65536
   ·exact ⟨noStats, by unfold ranges_Of.f; rw [if_pos hl, if_neg (not_not_intro hc), if_neg h0, if_pos h6]⟩
   ·by_cases ha : l.any (fun x => !ofB t0 t1 x) = true
    ·exact ⟨noStats, by unfold ranges_Of.f; rw [if_pos hl, if_neg (not_not_intro hc), if_neg h0, if_neg h6, if_pos ha]⟩
    ·refine ⟨ofV t0 l n, of_f hl hc (by omega) (by omega) (fun x hx => ?_)⟩
     cases h : ofB t0 t1 x with
     | true => rfl
     | false => exact absurd (List.any_eq_true.mpr ⟨x, hx, by rw [h]; rfl⟩) ha
 ·exact ⟨noStats, by unfold ranges_Of.f; rw [if_pos hl, if_pos hc]⟩
theorem check_two {t0 t1 n : Int} {has : Bool} {a b : ByteArray} (hc : datum_Check.v t0 t1 = 0) (h : checkV t0 t1 n has a b ≠ 0) : checkV t0 t1 n has a b = 320 := by
 unfold checkV at h ⊢
 rw [if_neg (not_not_intro hc)] at h ⊢
 repeat' split
 all_goals first | rfl | (exfalso; simp_all; done)
theorem join_loop (l : List S31) (hb : ∀ x ∈ l, x.f2.size ≤ 10000 ∧ x.f3.size ≤ 10000) (hlen : l.length ≤ 20) (t0 t1 : Int) (hc : datum_Check.v t0 t1 = 0) :
  ∀ d j K1 K2 : Nat, ∀ (data : List S29) (n : Int), l.length = j + d → d < K1 → 40300 + d ≤ K2 → data.length ≤ 2 * j → Small data → ∃ v, ranges_Join.l0 K1 data n l (l.length : Int) (j : Int) t0 t1 = some v ∧ marquetryref22_Join.l0 K2 l data n (j : Int) t0 t1 = some v := by
 intro d
 induction d with
 | zero =>
  intro j K1 K2 data n hj h1 h2 hdl hs
  obtain ⟨K1, rfl⟩ : ∃ K', K1 = K' + 1 := ⟨K1 - 1, by omega⟩
  obtain ⟨K2, rfl⟩ : ∃ K', K2 = K' + 1 := ⟨K2 - 1, by omega⟩
  have hA : ¬ (j : Int) < (l.length : Int) := by omega
  simp only [ranges_Join.l0, marquetryref22_Join.l0]
  rw [if_neg hA, if_neg hA]
  by_cases h6 : n > 65536
  ·rw [if_pos h6, if_pos h6]
   exact ⟨_, rfl, rfl⟩
  ·rw [if_neg h6, if_neg h6, refOf data hs (by omega) t0 t1 n K2 (by omega)]
   obtain ⟨v, hv⟩ := of_total t0 t1 n data (by omega)
   rw [hv]
   exact ⟨_, rfl, rfl⟩
 | succ d ih =>
  intro j K1 K2 data n hj h1 h2 hdl hs
  obtain ⟨K1, rfl⟩ : ∃ K', K1 = K' + 1 := ⟨K1 - 1, by omega⟩
  obtain ⟨K2, rfl⟩ : ∃ K', K2 = K' + 1 := ⟨K2 - 1, by omega⟩
  have hjl : j < l.length := by omega
  have hx := hb l[j] (List.getElem_mem hjl)
  have hA : (j : Int) < (l.length : Int) := by omega
  have hB : 0 ≤ (j : Int) := by omega
  simp only [ranges_Join.l0, marquetryref22_Join.l0]
  rw [if_pos hA, if_pos hB, if_pos hA, if_pos hA, if_pos hB, rd31_at l j hjl, check_f _ _ _ _ _ _ (by omega) (by omega), refCheck22_at _ _ _ _ _ _ hx.1 hx.2 (by omega), RngOf.wrap_next j (by omega)]
  simp only [Option.bind_some]
  by_cases hck : checkV t0 t1 (l[j]).f0 (l[j]).f1 (l[j]).f2 (l[j]).f3 = 0
  ·rw [if_pos hck, if_pos hck]
   cases hh : (l[j]).f1 with
   | false =>
    rw [if_neg (show ¬ (false = true) by decide), if_neg (show ¬ (false = true) by decide)]
    exact ih (j + 1) K1 K2 data _ (by omega) (by omega) (by omega) (by omega) hs
   | true =>
    rw [if_pos (rfl : true = true), if_pos (rfl : true = true), ends_f _ _ _ _ _ _ (by omega) (by omega), refRead_at _ _ _ hx.1 (by omega), refRead_at _ _ _ hx.2 (by omega)]
    simp only [Option.bind_some]
    rw [if_pos (by simp; omega), if_pos (by simp; omega)]
    refine ih (j + 1) K1 K2 _ _ (by omega) (by omega) (by omega) (by simp; omega) ?_
    intro x hx2
    have r1 := readV_range t0 t1 (l[j]).f2
    have r2 := readV_range t0 t1 (l[j]).f3
    rcases List.mem_append.mp hx2 with h | h
    ·exact hs x h
    ·rcases List.mem_cons.mp h with rfl | h
     ·exact ⟨r1.1, by show (readV t0 t1 (l[j]).f2).2.2.1.size ≤ 10000; omega⟩
     ·rw [List.mem_singleton.mp h]
      exact ⟨r2.1, by show (readV t0 t1 (l[j]).f3).2.2.1.size ≤ 10000; omega⟩
  ·rw [if_neg hck, if_neg hck, check_two hc hck]
   exact ⟨_, rfl, rfl⟩
theorem join_same (l : List S31) (hb : ∀ x ∈ l, x.f2.size ≤ 10000 ∧ x.f3.size ≤ 10000) (hlen : l.length ≤ 20) (t0 t1 : Int) (K : Nat) (hK : 41000 ≤ K) : ∃ v, ranges_Join.f K t0 t1 l = some v ∧ marquetryref22_Join.f K t0 t1 l = some v := by
 unfold ranges_Join.f marquetryref22_Join.f
 have e1 : datum_Check.f t0 t1 = some (datum_Check.v t0 t1) := rfl
 rw [e1, refCheck_at _ _ (by omega)]
 simp only [Option.bind_some]
 by_cases hc : datum_Check.v t0 t1 = 0
 ·rw [if_pos hc, decide_eq_true hc, if_pos rfl]
  exact join_loop l hb hlen t0 t1 hc l.length 0 K K [] 0 (by omega) (by omega) (by omega) (by simp) (fun x hx => by cases hx)
 ·rw [if_neg hc, decide_eq_false hc, if_neg (by decide)]
  exact ⟨_, rfl, rfl⟩
theorem pure_ : Pure := by
 intro y0 y1 h0 h1
 obtain ⟨t0, t1⟩ := y0
 refine ⟨42000, ?_⟩
 unfold marquetrylaw22_RangesJoins.f
 simp only
 have hb : Big y1 := fun x hx => ⟨(h1.2.2 x hx).2.2.1, (h1.2.2 x hx).2.2.2⟩
 obtain ⟨K', n', hK, he, hn⟩ := sum_loop y1 hb t0 t1 (if y1.length ≤ 20 then y1.length else 21) 0 42000 0 (by omega) (by split <;> omega) (by omega) (by omega)
 have he' : marquetrylaw22_RangesJoins.l0 42000 y1 0 0 t0 t1 = marquetrylaw22_RangesJoins.j1 K' y1 n' t0 t1 := he
 rw [he']
 have hK2 : 41970 ≤ K' := by split at hK <;> omega
 obtain ⟨K, rfl⟩ : ∃ K, K' = K + 2 := ⟨K' - 2, by omega⟩
 have hT : marquetrylaw22_RangesJoins.j2 (K + 1) y1 true t0 t1 = some true := by
  simp only [marquetrylaw22_RangesJoins.j2]
  rfl
 simp only [marquetrylaw22_RangesJoins.j1]
 by_cases hl : (y1.length : Int) > 20
 ·rw [if_pos hl, hT]
 ·rw [if_neg hl]
  by_cases h10 : n' > 10000
  ·rw [decide_eq_true h10, hT]
  ·rw [decide_eq_false h10]
   have hs := hn (by omega)
   rw [List.drop_zero] at hs
   obtain ⟨v, e1, e2⟩ := join_same y1 (tot_each y1 (by omega)) (by omega) t0 t1 K (by omega)
   simp only [marquetrylaw22_RangesJoins.j2]
   rw [if_neg (by decide), e1, e2]
   simp [marquetrylaw22_num.f, marquetrylaw22_works.f]
end Go.Proofs.Ytncehlbhjoejhaa.rangesJoins
end
