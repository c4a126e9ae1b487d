/- Texts of the claim, packed: PureRangesParts. -/
import Derived.Test.YtncehlbhjoejhaaZRangesParts4
import Derived.Test.YtncehlbhjoejhaaZRangesParts18
import Derived.Test.YtncehlbhjoejhaaZRangesParts24
import Derived.Test.YtncehlbhjoejhaaZRangesParts26
section
/- What is known does not hang on the order of data, that of two parts it is that of both together, and it is read as it was laid (RangesParts), at every type, data and cut. -/
namespace Go.Proofs.Ytncehlbhjoejhaa.rangesParts
open Go.RowKit Go.Proofs.YtncehlbhjoejhaaW.PrintWords Go.Proofs.YtncehlbhjoejhaaW.PrintLast Go.Proofs.YtncehlbhjoejhaaW.PrintMore Go.Proofs.Ytncehlbhjoejhaa.H Go.Proofs.YtncehlbhjoejhaaO Go.Proofs.Ytncehlbhjoejhaa.RngAid Go.Proofs.Ytncehlbhjoejhaa.RngOrd Go.Proofs.Ytncehlbhjoejhaa.RngSnd Go.Proofs.Ytncehlbhjoejhaa.RngOf Go.Proofs.Ytncehlbhjoejhaa.RngPts
set_option linter.unusedVariables false
set_option linter.unusedSimpArgs false
theorem bytes_some (l : List S29) (hl : l.length ≤ 100) : ∀ d j K : Nat, ∀ n : Int, l.length = j + d → d < K → ∃ v, marquetrylaw22_bytes.l0 K l n (j : Int) = some v := by
  intro d
  induction d with
  | zero =>
    intro j K n hj hK
    obtain ⟨K, rfl⟩ : ∃ K', K = K' + 1 := ⟨K - 1, by omega⟩
    simp only [marquetrylaw22_bytes.l0]
    rw [if_neg (by omega)]
    exact ⟨_, rfl⟩
  | succ d ih =>
    intro j K n hj hK
    obtain ⟨K, rfl⟩ : ∃ K', K = K' + 1 := ⟨K - 1, by omega⟩
    simp only [marquetrylaw22_bytes.l0]
    rw [if_pos (by omega)]
    split
    · rw [if_pos (by omega), RngOf.wrap_next j (by omega)]
      exact ih (j + 1) K _ (by omega) (by omega)
    · exact ⟨_, rfl⟩
theorem chk_val (t0 t1 : Int) : ∀ l : List S29, ∃ b, marquetrylaw22_RangesParts.chk t0 t1 l = some b ∧ (b = true → ∀ x ∈ l, ofB t0 t1 x = true)
  | [] => ⟨true, rfl, fun _ x hx => by cases hx⟩
  | x :: xs => by
    obtain ⟨b, hb, hall⟩ := chk_val t0 t1 xs
    cases ho : ofB t0 t1 x with
    | false =>
      refine ⟨false, ?_, fun h => by cases h⟩
      unfold marquetrylaw22_RangesParts.chk
      rw [of_val t0 t1 x, ho]
      rfl
    | true =>
      refine ⟨b, ?_, fun h y hy => ?_⟩
      · have hk := ((ofB_iff t0 t1 x.f0 x.f1 x.f2).1 ho).2.2.1
        have hr : readV t0 t1 (layV x.f0 x.f1 x.f2) = (x.f0, x.f1, x.f2, 0) := by
          obtain ⟨k, i, t⟩ := x
          simp only at hk ⊢
          subst hk
          exact read_lay ho
        have hs := lay_small x.f0 x.f1 x.f2
        unfold marquetrylaw22_RangesParts.chk
        rw [of_val t0 t1 x, ho]
        simp only [Option.bind_some]
        rw [if_neg (show ¬ (true = false) by decide), lay_v]
        simp only [Option.bind_some]
        rw [read_f _ _ _ (by omega), hr]
        simp only [Option.bind_some]
        rw [if_pos ⟨trivial, trivial, trivial, trivial⟩, hb]
      · rcases List.mem_cons.mp hy with rfl | hy
        · exact ho
        · exact hall h y hy
theorem rd31_at (l : List S31) (i : Nat) (h : i < l.length) : rd_T31 l (i : Int) = l[i] := by
  unfold rd_T31
  rw [Int.toNat_natCast, List.getD_eq_getElem?_getD, List.getElem?_eq_getElem h]
  rfl
def stS (s : Int × Bool × ByteArray × ByteArray) : S31 := ⟨s.1, s.2.1, s.2.2.1, s.2.2.2⟩
/-- One step of Join at what is known of data. -/
theorem join_step {t0 t1 : Int} {l : List S29} {nl : Int} (hc : datum_Check.v t0 t1 = 0) (hn0 : 0 ≤ nl) (hn1 : nl ≤ 60000) (hall : ∀ x ∈ l, ofB t0 t1 x = true) (L : List S31) (j : Nat) (hj : j < L.length) (hL : L[j] = stS (ofV t0 l nl)) (hLl : L.length ≤ 5) (K : Nat) (data : List S29) (hd : data.length ≤ 10) (n : Int) (hn : 0 ≤ n) (hn2 : n + nl ≤ 65536) :
    ranges_Join.l0 (K + 1) data n L (L.length : Int) (j : Int) t0 t1 = ranges_Join.l0 K (data ++ endsL t0 t1 (ofV t0 l nl)) (n + nl) L (L.length : Int) ((j + 1 : Nat) : Int) t0 t1 := by
  have hA : (j : Int) < (L.length : Int) := by omega
  have hB : 0 ≤ (j : Int) := by omega
  have hsm := of_small t0 l nl
  have hck := of_check hc hn0 (by omega : nl ≤ 65536) hall
  simp only [ranges_Join.l0]
  rw [if_pos hA, if_pos hB, if_pos hA, rd31_at L j hj, hL]
  unfold stS
  simp only
  rw [check_f _ _ _ _ _ _ (by omega) (by omega), hck]
  simp only [Option.bind_some]
  have hw : mn (wrap64 (n + (ofV t0 l nl).1)) 65537 = n + nl := by
    rw [of_first]
    unfold mn wrap64
    split <;> omega
  rw [if_pos trivial, hw, RngOf.wrap_next j (by omega)]
  unfold endsL
  cases hh : (ofV t0 l nl).2.1 with
  | false => rw [if_neg (by decide), if_neg (by decide), List.append_nil]
  | true =>
    rw [if_pos rfl, if_pos rfl, ends_f _ _ _ _ _ _ (by omega) (by omega)]
    simp only [Option.bind_some]
    rw [if_pos (by simp; omega)]
theorem join_end {t0 t1 n : Int} {L : List S31} {data : List S29} (K : Nat) (hc : datum_Check.v t0 t1 = 0) (hn0 : 0 ≤ n) (hn1 : n ≤ 65536) (hd : data.length ≤ 1000) (hall : ∀ x ∈ data, ofB t0 t1 x = true) :
    ranges_Join.l0 (K + 1) data n L (L.length : Int) (L.length : Int) t0 t1 = some ((ofV t0 data n).1, (ofV t0 data n).2.1, (ofV t0 data n).2.2.1, (ofV t0 data n).2.2.2, 0) := by
  simp only [ranges_Join.l0]
  rw [if_neg (show ¬ (L.length : Int) < (L.length : Int) by omega), if_neg (by omega), of_f (by omega) hc hn0 hn1 hall]
  rfl
theorem ends_ok {t0 t1 n : Int} {l : List S29} (hall : ∀ x ∈ l, ofB t0 t1 x = true) : (∀ x ∈ endsL t0 t1 (ofV t0 l n), ofB t0 t1 x = true) ∧ (endsL t0 t1 (ofV t0 l n)).length ≤ 2 := by
  rcases ends_of (n := n) hall with ⟨_, e⟩ | ⟨_, i1, u1, i2, u2, e, f1, f2, _⟩
  · rw [e]; exact ⟨fun x hx => (by cases hx), (by simp)⟩
  · rw [e]
    refine ⟨fun x hx => ?_, by simp⟩
    rcases List.mem_cons.mp hx with rfl | hx
    · exact f1
    · rw [List.mem_singleton.mp hx]; exact f2
theorem pure_ : Pure := by
  intro y0 y1 y2 h0 h1 h2
  obtain ⟨t0, t1⟩ := y0
  refine ⟨300, ?_⟩
  unfold marquetrylaw22_RangesParts.f
  simp only
  by_cases hl : y1.length > 100
  · rw [if_pos hl]
  rw [if_neg hl]
  obtain ⟨v, hv⟩ := bytes_some y1 (by omega) y1.length 0 300 0 (by omega) (by omega)
  have hv' : marquetrylaw22_bytes.f 300 y1 = some v := hv
  rw [hv']
  simp only [Option.bind_some]
  by_cases hb : v > 10000
  · rw [if_pos hb]
  rw [if_neg hb]
  by_cases hc0 : y2 < 0
  · rw [if_pos hc0]
  rw [if_neg hc0]
  by_cases hc1 : y2 > (y1.length : Int)
  · rw [if_pos hc1]
  rw [if_neg hc1]
  by_cases hc : datum_Check.v t0 t1 ≠ 0
  · rw [if_pos hc]
  rw [if_neg hc]
  have hc' : datum_Check.v t0 t1 = 0 := Decidable.not_not.mp hc
  obtain ⟨b, hk, hall⟩ := chk_val t0 t1 y1.reverse
  rw [hk]
  simp only [Option.bind_some]
  cases b with
  | false => rw [if_pos rfl]
  | true =>
    rw [if_neg (by decide)]
    have hall : ∀ x ∈ y1, ofB t0 t1 x = true := fun x hx => hall rfl x (List.mem_reverse.mpr hx)
    have hA : ∀ x ∈ y1.take y2.toNat, ofB t0 t1 x = true := fun x hx => hall x (List.mem_of_mem_take hx)
    have hB : ∀ x ∈ y1.drop y2.toNat, ofB t0 t1 x = true := fun x hx => hall x (List.mem_of_mem_drop hx)
    have hR : ∀ x ∈ y1.reverse, ofB t0 t1 x = true := fun x hx => hall x (List.mem_reverse.mp hx)
    have hab : ∀ x, x ∈ y1 ↔ x ∈ y1.take y2.toNat ∨ x ∈ y1.drop y2.toNat := by
      intro x
      rw [← List.mem_append, List.take_append_drop]
    have hlA : (y1.take y2.toNat).length ≤ 100 := by rw [List.length_take]; omega
    have hlB : (y1.drop y2.toNat).length ≤ 100 := by rw [List.length_drop]; omega
    unfold marquetrylaw22_RangesParts.g
    rw [of_f (by omega) hc' (by decide) (by decide) hall, of_f (by omega) hc' (by decide) (by decide) hA, of_f (by omega) hc' (by decide) (by decide) hB, of_f (by rw [List.length_reverse]; omega) hc' (by decide) (by decide) hR]
    simp only [Option.bind_some]
    have e1 : datum_Check.f t0 t1 = some (datum_Check.v t0 t1) := rfl
    have eA := ends_ok (n := 1) hA
    have eB := ends_ok (n := 2) hB
    have eS := ends_ok (n := 3) hall
    have J2 : ranges_Join.f 300 t0 t1 [stS (ofV t0 (y1.take y2.toNat) 1), stS (ofV t0 (y1.drop y2.toNat) 2)] = some ((ofV t0 y1 3).1, (ofV t0 y1 3).2.1, (ofV t0 y1 3).2.2.1, (ofV t0 y1 3).2.2.2, 0) := by
      unfold ranges_Join.f
      rw [e1]
      simp only [Option.bind_some]
      rw [if_pos hc']
      have s1 := join_step hc' (by decide) (by decide) hA [stS (ofV t0 (y1.take y2.toNat) 1), stS (ofV t0 (y1.drop y2.toNat) 2)] 0 (by simp) rfl (by simp) 299 [] (by simp) 0 (by decide) (by decide)
      have s2 := join_step hc' (by decide) (by decide) hB [stS (ofV t0 (y1.take y2.toNat) 1), stS (ofV t0 (y1.drop y2.toNat) 2)] 1 (by simp) rfl (by simp) 298 ([] ++ endsL t0 t1 (ofV t0 (y1.take y2.toNat) 1)) (by rw [List.nil_append]; omega) (0 + 1) (by decide) (by decide)
      have s3 := join_end (L := [stS (ofV t0 (y1.take y2.toNat) 1), stS (ofV t0 (y1.drop y2.toNat) 2)]) (n := 0 + 1 + 2) (data := [] ++ endsL t0 t1 (ofV t0 (y1.take y2.toNat) 1) ++ endsL t0 t1 (ofV t0 (y1.drop y2.toNat) 2)) 297 hc' (by decide) (by decide) (by rw [List.nil_append, List.length_append]; omega) (fun x hx => by
        rw [List.nil_append] at hx
        rcases List.mem_append.mp hx with h | h
        · exact eA.1 x h
        · exact eB.1 x h)
      have s4 := of_two (0 + 1 + 2) 1 2 hall hab
      rw [List.nil_append] at s3
      rw [s4] at s3
      exact s1.trans (s2.trans s3)
    have J1 : ranges_Join.f 300 t0 t1 [stS (ofV t0 y1 3)] = some ((ofV t0 y1 3).1, (ofV t0 y1 3).2.1, (ofV t0 y1 3).2.2.1, (ofV t0 y1 3).2.2.2, 0) := by
      unfold ranges_Join.f
      rw [e1]
      simp only [Option.bind_some]
      rw [if_pos hc']
      have s1 := join_step hc' (by decide) (by decide) hall [stS (ofV t0 y1 3)] 0 (by simp) rfl (by simp) 299 [] (by simp) 0 (by decide) (by decide)
      have s3 := join_end (L := [stS (ofV t0 y1 3)]) (n := 0 + 3) (data := [] ++ endsL t0 t1 (ofV t0 y1 3)) 298 hc' (by decide) (by decide) (by rw [List.nil_append]; omega) (fun x hx => eS.1 x (by rw [List.nil_append] at hx; exact hx))
      have s4 := of_one (0 + 3) 3 hall
      rw [List.nil_append] at s3
      rw [s4] at s3
      exact s1.trans s3
    have J2' := J2
    have J1' := J1
    unfold stS at J2' J1'
    rw [J2', J1', of_perm 3 hall (fun x => List.mem_reverse)]
    simp
end Go.Proofs.Ytncehlbhjoejhaa.rangesParts
end
