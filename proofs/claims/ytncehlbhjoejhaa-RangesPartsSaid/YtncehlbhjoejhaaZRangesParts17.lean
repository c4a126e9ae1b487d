/- Texts of the claim, packed: H23, H44, H45. -/
import Derived.Laws.BitsAllLaws
import Derived.Laws.IdiomStrings
import Derived.Lib.Hide
import Derived.Test.YtncehlbhjoejhaaZRangesParts4
import Derived.Test.YtncehlbhjoejhaaZRangesParts6
import Derived.Test.YtncehlbhjoejhaaZRangesParts9
import Derived.Test.YtncehlbhjoejhaaZRangesParts16
section
-- Laid by this session's hprint.py, out of the kit's print.py and texts of the session. Not trusted: Lean checks it.
namespace Go.Proofs.Ytncehlbhjoejhaa.H
open Go.RowKit Go.Proofs.YtncehlbhjoejhaaW.PrintWords Go.Proofs.YtncehlbhjoejhaaW.PrintLast Go.Proofs.YtncehlbhjoejhaaW.PrintMore
attribute [local go_sem] max2_int min2_int max_two min_two max_three min_three max_four min_four   -- for this text's walks alone
set_option linter.unusedVariables false
set_option linter.unusedSimpArgs false

-- OVPART Derived.Lib.Hide Derived.Laws.IdiomStrings Derived.Laws.BitsAllLaws
/-! ### ranges_Read: function 18 -/
def leI (s : ByteArray) : Nat → Int
  | 0 => 0
  | k + 1 => bits .or .u64 (leI s k) (shl .u64 (bt s k) (8 * (k : Int)))
def wideI (k : Int) : Int := if k = 0 then 1 else if k = 1 ∨ k = 4 then 4 else if k = 2 ∨ k = 5 then 8 else 0
def readI (k : Int) (s : ByteArray) : Int := if k = 1 then IntKind.i32.wrap (leI s s.size) else IntKind.i64.wrap (leI s s.size)
def ranges_Read.f (t0 t1 : Int) (s : ByteArray) : Option (Int × Int × ByteArray × Int) :=
  if s.size ≤ 140737488351232 then
    (if datum_Check.v t0 t1 ≠ 0 then some (0, 0, ⟨#[]⟩, 2)
    else if wideI t0 = 0 then (if ofB t0 t1 ⟨t0, 0, s⟩ = true then some (t0, 0, s, 0) else some (0, 0, ⟨#[]⟩, 320))
    else if wideI t0 ≠ (s.size : Int) then some (0, 0, ⟨#[]⟩, 320)
    else if ofB t0 t1 ⟨t0, readI t0 s, ⟨#[]⟩⟩ = true then some (t0, readI t0 s, ⟨#[]⟩, 0) else some (0, 0, ⟨#[]⟩, 320))
  else none
theorem wide_of (k : Int) : ranges_wide.f k = some (wideI k) := by
  unfold ranges_wide.f wideI
  repeat' split
  all_goals first | rfl | (exfalso; omega)
structure SR (w W : World) (t0 t1 : Int) : Prop where
  b0 : W.heap[w.heap.size]? = some (.cells #[.int .i64 t0, .int .i64 t1] 24 (0, 0))
  b1 : W.heap[w.heap.size + 1]? = some (.cells #[.int .i64 0, .int .i64 0, .string ⟨#[]⟩] 29 (0, 0))
  below : Below w.heap.size w W
theorem SR.next {w W W' : World} {t0 t1 : Int} (h : SR w W t0 t1) (hb : Below W.heap.size W W') : SR w W' t0 t1 := ⟨blk_below h.b0 hb, blk_below h.b1 hb, below_step h.below hb⟩
theorem SR.start (w : World) (t0 t1 : Int) : SR w ((w.alloc (.cells #[.int .i64 t0, .int .i64 t1] 24)).alloc (.cells #[.int .i64 0, .int .i64 0, .string ⟨#[]⟩] 29)) t0 t1 := by
  refine ⟨blk_alloc (blk_new w _) _, ?_, below_alloc (below_alloc (Below.refl _ _) _) _⟩
  have h := blk_new (w.alloc (.cells #[.int .i64 t0, .int .i64 t1] 24)) (.cells #[.int .i64 0, .int .i64 0, .string ⟨#[]⟩] 29)
  rw [World.size_alloc] at h
  exact h
theorem SR.cells {w W : World} {t0 t1 : Int} (h : SR w W t0 t1) : W.cell? ⟨w.heap.size, 0, none⟩ = some (.int .i64 t0) ∧ W.cell? ⟨w.heap.size, 1, none⟩ = some (.int .i64 t1) ∧
    W.cell? ⟨w.heap.size + 1, 0, none⟩ = some (.int .i64 0) ∧ W.cell? ⟨w.heap.size + 1, 1, none⟩ = some (.int .i64 0) ∧ W.cell? ⟨w.heap.size + 1, 2, none⟩ = some (.string ⟨#[]⟩) ∧
    W.frozen? ⟨w.heap.size + 1, 0, none⟩ = false ∧ W.frozen? ⟨w.heap.size + 1, 1, none⟩ = false ∧ W.frozen? ⟨w.heap.size + 1, 2, none⟩ = false :=
  ⟨blk_cell h.b0 0, blk_cell h.b0 1, blk_cell h.b1 0, blk_cell h.b1 1, blk_cell h.b1 2, blk_frozen h.b1 0, blk_frozen h.b1 1, blk_frozen h.b1 2⟩
structure SD (w W : World) (B : Nat) (t0 t1 i : Int) (t : ByteArray) : Prop where
  sr : SR w W t0 t1
  lt : w.heap.size + 1 < B
  kd : W.heap[B]? = some (.cells #[.int .i64 t0, .int .i64 i, .string t] 29 (0, 0))
theorem SD.next {w W W' : World} {B : Nat} {t0 t1 i : Int} {t : ByteArray} (h : SD w W B t0 t1 i t) (hb : Below W.heap.size W W') : SD w W' B t0 t1 i t := ⟨h.sr.next hb, h.lt, blk_below h.kd hb⟩
theorem SD.start {w W : World} {t0 t1 : Int} (h : SR w W t0 t1) : SD w (W.alloc (.cells #[.int .i64 t0, .int .i64 0, .string ⟨#[]⟩] 29)) W.heap.size t0 t1 0 ⟨#[]⟩ := ⟨h.next (below_alloc (Below.refl _ _) _), blk_lt h.b1, blk_new W _⟩
theorem SD.cells {w W : World} {B : Nat} {t0 t1 i : Int} {t : ByteArray} (h : SD w W B t0 t1 i t) : W.cell? ⟨B, 0, none⟩ = some (.int .i64 t0) ∧ W.cell? ⟨B, 1, none⟩ = some (.int .i64 i) ∧ W.cell? ⟨B, 2, none⟩ = some (.string t) ∧ W.frozen? ⟨B, 0, none⟩ = false ∧ W.frozen? ⟨B, 1, none⟩ = false ∧ W.frozen? ⟨B, 2, none⟩ = false :=
  ⟨blk_cell h.kd 0, blk_cell h.kd 1, blk_cell h.kd 2, blk_frozen h.kd 0, blk_frozen h.kd 1, blk_frozen h.kd 2⟩
theorem SR.far {w W : World} {B : Nat} {t0 t1 : Int} (h : SR w W t0 t1) (hB : w.heap.size + 1 < B) (k : Nat) (v : Value) : SR w (W.setCell ⟨B, k, none⟩ v) t0 t1 :=
  ⟨blk_far h.b0 (p := ⟨B, k, none⟩) (by show w.heap.size ≠ B; omega) v, blk_far h.b1 (p := ⟨B, k, none⟩) (by show w.heap.size + 1 ≠ B; omega) v, h.below.setCell (p := ⟨B, k, none⟩) (by show w.heap.size ≤ B; omega) v⟩
theorem SD.setI {w W : World} {B : Nat} {t0 t1 i : Int} {t : ByteArray} (h : SD w W B t0 t1 i t) (j : Int) : SD w (W.setCell ⟨B, 1, none⟩ (.int .i64 j)) B t0 t1 j t := ⟨h.sr.far h.lt 1 _, h.lt, blk_put h.kd 1 _ rfl⟩
theorem SD.setT {w W : World} {B : Nat} {t0 t1 i : Int} {t : ByteArray} (h : SD w W B t0 t1 i t) (u : ByteArray) : SD w (W.setCell ⟨B, 2, none⟩ (.string u)) B t0 t1 i u := ⟨h.sr.far h.lt 2 _, h.lt, blk_put h.kd 2 _ rfl⟩
theorem of_val (t0 t1 : Int) (x : S29) : datum_Of.f x.f0 x.f1 x.f2 t0 t1 = some (ofB t0 t1 x) := by
  obtain ⟨b, hb⟩ := of_some x.f0 x.f1 x.f2 t0 t1
  unfold ofB
  rw [hb]
  rfl
theorem bt_range (s : ByteArray) (i : Int) : 0 ≤ bt s i ∧ bt s i < 256 := by
  unfold bt
  split
  · rename_i h
    have := (s[i.toNat]'h).toNat_lt
    omega
  · omega
theorem wrap_one (s : ByteArray) : wrap64 (wrap32 (leI s s.size)) = readI 1 s := by
  unfold readI
  rw [if_pos rfl]
  simp only [IntKind.wrap, IntKind.bits, IntKind.signed, wrap64, wrap32, Bool.true_and, decide_eq_true_eq]
  generalize leI s s.size = x
  simp only [show (2 : Int) ^ 32 = 4294967296 from rfl, show (2 : Int) ^ (32 - 1) = 2147483648 from rfl, show (2 : Int) ^ 64 = 18446744073709551616 from rfl, show (2 : Int) ^ (64 - 1) = 9223372036854775808 from rfl]
  split <;> (rename_i hq; simp at hq; omega)
theorem wrap_else (k : Int) (s : ByteArray) (hk : ¬ k = 1) : wrap64 (leI s s.size) = readI k s := by
  unfold readI
  rw [if_neg hk]
  simp only [IntKind.wrap, IntKind.bits, IntKind.signed, wrap64, wrap32, Bool.true_and, decide_eq_true_eq]
  generalize leI s s.size = x
  simp only [show (2 : Int) ^ 32 = 4294967296 from rfl, show (2 : Int) ^ (32 - 1) = 2147483648 from rfl, show (2 : Int) ^ 64 = 18446744073709551616 from rfl, show (2 : Int) ^ (64 - 1) = 9223372036854775808 from rfl]
  split <;> (rename_i hq; simp at hq; omega)
set_option maxHeartbeats 8000000 in
set_option maxRecDepth 100000 in
theorem ranges_Read.calls (a0_0 : Int) (a0_1 : Int) (a1 : ByteArray) (r1 : Int) (r2 : Int) (r3 : ByteArray) (r4 : Int) (w : World) (h : ranges_Read.f a0_0 a0_1 a1 = some (r1, r2, r3, r4)) :
    Calls Try.prog 18 #[.agg #[.int .i64 a0_0, .int .i64 a0_1], .string a1] w fun e w' => e = .returned (.tuple #[.agg #[.int .i64 r1, .int .i64 r2, .string r3], .int .i64 r4]) ∧ Below w.heap.size w w' := by
  unfold ranges_Read.f at h
  split at h
  case isFalse => cases h
  case isTrue hlen =>
  have hS := SR.start w a0_0 a0_1
  obtain ⟨W0, hW0⟩ : ∃ W0, W0 = (w.alloc (.cells #[.int .i64 a0_0, .int .i64 a0_1] 24)).alloc (.cells #[.int .i64 0, .int .i64 0, .string ⟨#[]⟩] 29) := ⟨_, rfl⟩
  rw [← hW0] at hS
  have HW0 := Lib.hid hW0
  clear hW0
  by_cases hchk : datum_Check.v a0_0 a0_1 ≠ 0
  · rw [if_pos hchk] at h
    simp only [Option.some.injEq, Prod.mk.injEq] at h
    obtain ⟨rfl, rfl, rfl, rfl⟩ := h
    have hk0 : (datum_Check.v a0_0 a0_1 != 0) = true := bne_iff_ne.mpr hchk
    clear hchk
    go_enter Try.func18, Try.ntmps18
    go_wp2_with fail
    rw [← HW0.out]
    refine (datum_Check.calls a0_0 a0_1 _ W0 rfl).mono ?_
    rintro e w1 ⟨rfl, hB1⟩
    have hS1 := hS.next hB1
    obtain ⟨hc0, hc1', hc2, hc3, hc4, hf2, hf3, hf4⟩ := hS1.cells
    go_wp2_with fail
    refine bodyPost_ret (results_ct rfl _ _ (w.heap.size + 1) 29 #[.int .i64 0, .int .i64 0, .string ⟨#[]⟩] (0, 0) _ rfl (put3 hS1.b1 _ _ _) Try.underlying29 rfl (by kernel_rfl)) rfl ?_
    exact ⟨rfl, ((hS1.below.setCell (p := ⟨w.heap.size + 1, 0, none⟩) (Nat.le_succ _) _).setCell (p := ⟨w.heap.size + 1, 1, none⟩) (Nat.le_succ _) _).setCell (p := ⟨w.heap.size + 1, 2, none⟩) (Nat.le_succ _) _⟩
  rw [if_neg hchk] at h
  have hchk' : datum_Check.v a0_0 a0_1 = 0 := Decidable.not_not.mp hchk
  have hk0 : (datum_Check.v a0_0 a0_1 != 0) = false := bne_eq_false_iff_eq.mpr hchk'
  clear hchk hchk'
  have hw1 := wide_of a0_0
  obtain ⟨n, hn⟩ : ∃ n, n = wideI a0_0 := ⟨_, rfl⟩
  have hn8 : n = 0 ∨ n = 1 ∨ n = 4 ∨ n = 8 := by
    rw [hn]
    unfold wideI
    repeat' split
    all_goals simp
  rw [← hn] at h hw1
  have HW1 := Lib.hid hw1
  clear hn hw1
  go_enter Try.func18, Try.ntmps18
  go_wp2_with fail
  rw [← HW0.out]
  refine (datum_Check.calls a0_0 a0_1 _ W0 rfl).mono ?_
  rintro e w1 ⟨rfl, hB1⟩
  have hS1 := hS.next hB1
  obtain ⟨hc0, hc1', hc2, hc3, hc4, hf2, hf3, hf4⟩ := hS1.cells
  have hlt1 := blk_lt hS1.b1
  have hltA : w.heap.size < w1.heap.size := by omega
  go_wp2_with fail
  refine (ranges_wide.calls a0_0 n _ HW1.out).mono ?_
  rintro e w2 ⟨rfl, hD2⟩
  have h2 := (SD.start hS1).next hD2.below
  obtain ⟨hd0, hd1, hd2, hg0, hg1, hg2⟩ := h2.cells
  clear hc0 hc1' hc2 hc3 hc4 hf2 hf3 hf4
  obtain ⟨hc0, hc1', hc2, hc3, hc4, hf2, hf3, hf4⟩ := h2.sr.cells
  have hlt2 := h2.lt
  obtain ⟨B, hB⟩ : ∃ B, B = w1.heap.size := ⟨_, rfl⟩
  rw [← hB] at h2 hlt2 hd0 hd1 hd2 hg0 hg1 hg2 ⊢
  clear hB hlt1 hltA hS1 hB1 hS hD2
  by_cases hn0 : n = 0
  · subst hn0
    rw [if_pos rfl] at h
    have h3 := h2.setT a1
    have hOf := of_val a0_0 a0_1 ⟨a0_0, 0, a1⟩
    by_cases hob : ofB a0_0 a0_1 ⟨a0_0, 0, a1⟩ = true
    · rw [if_pos hob] at h
      simp only [Option.some.injEq, Prod.mk.injEq] at h
      obtain ⟨rfl, rfl, rfl, rfl⟩ := h
      rw [hob] at hOf
      have HOF := Lib.hid hOf
      clear hOf hob
      go_wp2_with fail
      refine (datum_Of.calls _ _ _ _ _ _ _ HOF.out).mono ?_
      rintro e w5 ⟨rfl, hB5⟩
      have h5 := h3.next hB5
      obtain ⟨hd0, hd1, hd2, hg0, hg1, hg2⟩ := h5.cells
      obtain ⟨hc0, hc1', hc2, hc3, hc4, hf2, hf3, hf4⟩ := h5.sr.cells
      have hlt := h5.lt
      go_wp2_with fail
      refine bodyPost_ret (results_ct rfl _ _ (w.heap.size + 1) 29 #[.int .i64 a0_0, .int .i64 (0), .string a1] (0, 0) _ rfl (put3 h5.sr.b1 _ _ _) Try.underlying29 rfl (by kernel_rfl)) rfl ?_
      exact ⟨rfl, ((h5.sr.below.setCell (p := ⟨w.heap.size + 1, 0, none⟩) (Nat.le_succ _) _).setCell (p := ⟨w.heap.size + 1, 1, none⟩) (Nat.le_succ _) _).setCell (p := ⟨w.heap.size + 1, 2, none⟩) (Nat.le_succ _) _⟩
    · rw [if_neg hob] at h
      simp only [Option.some.injEq, Prod.mk.injEq] at h
      obtain ⟨rfl, rfl, rfl, rfl⟩ := h
      have hob' : ofB a0_0 a0_1 ⟨a0_0, 0, a1⟩ = false := by simpa using hob
      rw [hob'] at hOf
      have HOF := Lib.hid hOf
      clear hOf hob hob'
      go_wp2_with fail
      refine (datum_Of.calls _ _ _ _ _ _ _ HOF.out).mono ?_
      rintro e w5 ⟨rfl, hB5⟩
      have h5 := h3.next hB5
      obtain ⟨hc0, hc1', hc2, hc3, hc4, hf2, hf3, hf4⟩ := h5.sr.cells
      go_wp2_with fail
      refine bodyPost_ret (results_ct rfl _ _ (w.heap.size + 1) 29 #[.int .i64 0, .int .i64 0, .string ⟨#[]⟩] (0, 0) _ rfl (put3 h5.sr.b1 _ _ _) Try.underlying29 rfl (by kernel_rfl)) rfl ?_
      exact ⟨rfl, ((h5.sr.below.setCell (p := ⟨w.heap.size + 1, 0, none⟩) (Nat.le_succ _) _).setCell (p := ⟨w.heap.size + 1, 1, none⟩) (Nat.le_succ _) _).setCell (p := ⟨w.heap.size + 1, 2, none⟩) (Nat.le_succ _) _⟩
  · rw [if_neg hn0] at h
    have hn0b : (n == 0) = false := beq_eq_false_iff_ne.mpr hn0
    by_cases hns : n ≠ (a1.size : Int)
    · rw [if_pos hns] at h
      simp only [Option.some.injEq, Prod.mk.injEq] at h
      obtain ⟨rfl, rfl, rfl, rfl⟩ := h
      have hnsb : (n != (a1.size : Int)) = true := bne_iff_ne.mpr hns
      clear hns hn0
      go_wp2_with fail
      refine bodyPost_ret (results_ct rfl _ _ (w.heap.size + 1) 29 #[.int .i64 0, .int .i64 0, .string ⟨#[]⟩] (0, 0) _ rfl (put3 h2.sr.b1 _ _ _) Try.underlying29 rfl (by kernel_rfl)) rfl ?_
      exact ⟨rfl, ((h2.sr.below.setCell (p := ⟨w.heap.size + 1, 0, none⟩) (Nat.le_succ _) _).setCell (p := ⟨w.heap.size + 1, 1, none⟩) (Nat.le_succ _) _).setCell (p := ⟨w.heap.size + 1, 2, none⟩) (Nat.le_succ _) _⟩
    · rw [if_neg hns] at h
      have hns' : n = (a1.size : Int) := Decidable.not_not.mp hns
      have hnsb : (n != (a1.size : Int)) = false := bne_eq_false_iff_eq.mpr hns'
      subst hns'
      clear hns hnsb
      have kc := fun (w : World) => run_bytes_of_string (P := Try.prog) w 9 78 5 a1 Try.underlying9 Try.underlying78 Try.underlying5
      go_wp2_with fail
      go_loopw [9, 26] (fun va vi wr => ∃ k : Nat, k ≤ a1.size ∧ vi = .int .i64 k ∧ va = .int .u64 (leI a1 k) ∧ SD w wr B a0_0 a0_1 0 ⟨#[]⟩ ∧ Hid (∀ j : Nat, j < a1.size → wr.cell? ⟨w2.heap.size, j, none⟩ = some (.int .u8 (bt a1 (j : Int))))) (fun _ vi _ => a1.size - (intOf vi).toNat)
      case atStart =>
        refine ⟨0, Nat.zero_le _, by go_num, rfl, h2.next ((below_alloc (Below.refl _ _) _).drew), Lib.hid (fun j hj => ?_)⟩
        have hj' : j < a1.data.size := hj
        have hc := (World.cell?_alloc_mark w2 (bytesRow a1 (grownCap w2 a1.size 0 5)) 5 ((bytesRow a1 (grownCap w2 a1.size 0 5)).size, (bytesRow a1 (grownCap w2 a1.size 0 5)).size + 1) j).trans (bytesRow_at a1 _ j hj')
        refine Eq.trans ?_ (hc.trans ?_)
        · rfl
        · unfold bt
          rw [dif_pos (show ((j : Int)).toNat < a1.size by simpa using hj)]
          rfl
      case round =>
        obtain ⟨k, hk, rfl, rfl, hD, hrow⟩ := hrel
        by_cases hkn : k < a1.size
        · have hx := hrow.out k hkn
          have hle : leI a1 (k + 1) = bits .or .u64 (leI a1 k) (shl .u64 (bt a1 k) (8 * (k : Int))) := rfl
          have hb := bt_range a1 (k : Int)
          generalize bt a1 (k : Int) = x at *
          go_wp2_with fail
          go_roundw
          case rel =>
            refine ⟨k + 1, by omega, by go_num, ?_, hD, hrow⟩
            rw [hle]
            unfold shl
            rw [show min (8 * (k : Int)).toNat IntKind.u64.bits = 8 * k by
              have : IntKind.u64.bits = 64 := rfl
              rw [this]
              omega]
          case measure => simp [intOf]; omega
        · have hke : k = a1.size := by omega
          subst hke
          obtain ⟨hd0, hd1, hd2, hg0, hg1, hg2⟩ := hD.cells
          obtain ⟨hc0, hc1', hc2, hc3, hc4, hf2, hf3, hf4⟩ := hD.sr.cells
          have hlt := hD.lt
          by_cases hk1 : a0_0 = 1
          · have hk1b : (a0_0 == 1) = true := beq_iff_eq.mpr hk1
            subst hk1
            have HR := Lib.hid (wrap_one a1)
            generalize leI a1 a1.size = x at *
            go_wp2_with fail
            rw [HR.out]
            have h4 := (hD.setI (wrap64 x)).setI (readI 1 a1)
            have hOf := of_val 1 a0_1 ⟨1, readI 1 a1, ⟨#[]⟩⟩
            by_cases hob : ofB 1 a0_1 ⟨1, readI 1 a1, ⟨#[]⟩⟩ = true
            · rw [if_pos hob] at h
              simp only [Option.some.injEq, Prod.mk.injEq] at h
              obtain ⟨rfl, rfl, rfl, rfl⟩ := h
              rw [hob] at hOf
              have HOF := Lib.hid hOf
              clear hOf hob
              refine (datum_Of.calls _ _ _ _ _ _ _ HOF.out).mono ?_
              rintro e w5 ⟨rfl, hB5⟩
              have h5 := h4.next hB5
              obtain ⟨hd0, hd1, hd2, hg0, hg1, hg2⟩ := h5.cells
              obtain ⟨hc0, hc1', hc2, hc3, hc4, hf2, hf3, hf4⟩ := h5.sr.cells
              have hlt := h5.lt
              go_wp2_with fail
              refine bodyPost_ret (results_ct rfl _ _ (w.heap.size + 1) 29 #[.int .i64 1, .int .i64 (readI 1 a1), .string ⟨#[]⟩] (0, 0) _ rfl (put3 h5.sr.b1 _ _ _) Try.underlying29 rfl (by kernel_rfl)) rfl ?_
              exact ⟨rfl, ((h5.sr.below.setCell (p := ⟨w.heap.size + 1, 0, none⟩) (Nat.le_succ _) _).setCell (p := ⟨w.heap.size + 1, 1, none⟩) (Nat.le_succ _) _).setCell (p := ⟨w.heap.size + 1, 2, none⟩) (Nat.le_succ _) _⟩
            · rw [if_neg hob] at h
              simp only [Option.some.injEq, Prod.mk.injEq] at h
              obtain ⟨rfl, rfl, rfl, rfl⟩ := h
              have hob' : ofB 1 a0_1 ⟨1, readI 1 a1, ⟨#[]⟩⟩ = false := by simpa using hob
              rw [hob'] at hOf
              have HOF := Lib.hid hOf
              clear hOf hob hob'
              refine (datum_Of.calls _ _ _ _ _ _ _ HOF.out).mono ?_
              rintro e w5 ⟨rfl, hB5⟩
              have h5 := h4.next hB5
              obtain ⟨hc0, hc1', hc2, hc3, hc4, hf2, hf3, hf4⟩ := h5.sr.cells
              go_wp2_with fail
              refine bodyPost_ret (results_ct rfl _ _ (w.heap.size + 1) 29 #[.int .i64 0, .int .i64 0, .string ⟨#[]⟩] (0, 0) _ rfl (put3 h5.sr.b1 _ _ _) Try.underlying29 rfl (by kernel_rfl)) rfl ?_
              exact ⟨rfl, ((h5.sr.below.setCell (p := ⟨w.heap.size + 1, 0, none⟩) (Nat.le_succ _) _).setCell (p := ⟨w.heap.size + 1, 1, none⟩) (Nat.le_succ _) _).setCell (p := ⟨w.heap.size + 1, 2, none⟩) (Nat.le_succ _) _⟩
          · have hk1b : (a0_0 == 1) = false := beq_eq_false_iff_ne.mpr hk1
            have HR := Lib.hid (wrap_else a0_0 a1 hk1)
            clear hk1
            generalize leI a1 a1.size = x at *
            go_wp2_with fail
            rw [HR.out]
            have h4 := hD.setI (readI a0_0 a1)
            have hOf := of_val a0_0 a0_1 ⟨a0_0, readI a0_0 a1, ⟨#[]⟩⟩
            by_cases hob : ofB a0_0 a0_1 ⟨a0_0, readI a0_0 a1, ⟨#[]⟩⟩ = true
            · rw [if_pos hob] at h
              simp only [Option.some.injEq, Prod.mk.injEq] at h
              obtain ⟨rfl, rfl, rfl, rfl⟩ := h
              rw [hob] at hOf
              have HOF := Lib.hid hOf
              clear hOf hob
              refine (datum_Of.calls _ _ _ _ _ _ _ HOF.out).mono ?_
              rintro e w5 ⟨rfl, hB5⟩
              have h5 := h4.next hB5
              obtain ⟨hd0, hd1, hd2, hg0, hg1, hg2⟩ := h5.cells
              obtain ⟨hc0, hc1', hc2, hc3, hc4, hf2, hf3, hf4⟩ := h5.sr.cells
              have hlt := h5.lt
              go_wp2_with fail
              refine bodyPost_ret (results_ct rfl _ _ (w.heap.size + 1) 29 #[.int .i64 a0_0, .int .i64 (readI a0_0 a1), .string ⟨#[]⟩] (0, 0) _ rfl (put3 h5.sr.b1 _ _ _) Try.underlying29 rfl (by kernel_rfl)) rfl ?_
              exact ⟨rfl, ((h5.sr.below.setCell (p := ⟨w.heap.size + 1, 0, none⟩) (Nat.le_succ _) _).setCell (p := ⟨w.heap.size + 1, 1, none⟩) (Nat.le_succ _) _).setCell (p := ⟨w.heap.size + 1, 2, none⟩) (Nat.le_succ _) _⟩
            · rw [if_neg hob] at h
              simp only [Option.some.injEq, Prod.mk.injEq] at h
              obtain ⟨rfl, rfl, rfl, rfl⟩ := h
              have hob' : ofB a0_0 a0_1 ⟨a0_0, readI a0_0 a1, ⟨#[]⟩⟩ = false := by simpa using hob
              rw [hob'] at hOf
              have HOF := Lib.hid hOf
              clear hOf hob hob'
              refine (datum_Of.calls _ _ _ _ _ _ _ HOF.out).mono ?_
              rintro e w5 ⟨rfl, hB5⟩
              have h5 := h4.next hB5
              obtain ⟨hc0, hc1', hc2, hc3, hc4, hf2, hf3, hf4⟩ := h5.sr.cells
              go_wp2_with fail
              refine bodyPost_ret (results_ct rfl _ _ (w.heap.size + 1) 29 #[.int .i64 0, .int .i64 0, .string ⟨#[]⟩] (0, 0) _ rfl (put3 h5.sr.b1 _ _ _) Try.underlying29 rfl (by kernel_rfl)) rfl ?_
              exact ⟨rfl, ((h5.sr.below.setCell (p := ⟨w.heap.size + 1, 0, none⟩) (Nat.le_succ _) _).setCell (p := ⟨w.heap.size + 1, 1, none⟩) (Nat.le_succ _) _).setCell (p := ⟨w.heap.size + 1, 2, none⟩) (Nat.le_succ _) _⟩


end Go.Proofs.Ytncehlbhjoejhaa.H
end
section
-- Laid by this session's hprint.py, out of the kit's print.py and texts of the session. Not trusted: Lean checks it.
namespace Go.Proofs.Ytncehlbhjoejhaa.H
open Go.RowKit Go.Proofs.YtncehlbhjoejhaaW.PrintWords Go.Proofs.YtncehlbhjoejhaaW.PrintLast Go.Proofs.YtncehlbhjoejhaaW.PrintMore
attribute [local go_sem] max2_int min2_int max_two min_two max_three min_three max_four min_four   -- for this text's walks alone
set_option linter.unusedVariables false
set_option linter.unusedSimpArgs false

-- OVPART Derived.Lib.Hide Derived.Laws.BitsAllLaws
/-! ### marquetryref22_number: function 47 -/
def nI (s : ByteArray) : Nat → Int
  | 0 => 0
  | k + 1 => if bt s k ≥ 128 then (if (k : Int) < 7 then wrap64 (wrap64 (nI s k + wrap64 (bt s k % 128 * 2 ^ (8 * k))) + wrap64 (128 * 2 ^ (8 * k))) else if (k : Int) = 7 then wrap64 (wrap64 (nI s k + wrap64 (bt s k % 128 * 2 ^ (8 * k))) + -9223372036854775808) else wrap64 (nI s k + wrap64 (bt s k % 128 * 2 ^ (8 * k)))) else wrap64 (nI s k + wrap64 (bt s k % 128 * 2 ^ (8 * k)))
end Go.Proofs.Ytncehlbhjoejhaa.H
end
section
-- Laid by this session's hprint.py, out of the kit's print.py and texts of the session. Not trusted: Lean checks it.
namespace Go.Proofs.Ytncehlbhjoejhaa.H
open Go.RowKit Go.Proofs.YtncehlbhjoejhaaW.PrintWords Go.Proofs.YtncehlbhjoejhaaW.PrintLast Go.Proofs.YtncehlbhjoejhaaW.PrintMore
attribute [local go_sem] max2_int min2_int max_two min_two max_three min_three max_four min_four   -- for this text's walks alone
set_option linter.unusedVariables false
set_option linter.unusedSimpArgs false

/-! ### marquetryref22_Read: function 19 -/
end Go.Proofs.Ytncehlbhjoejhaa.H
end
