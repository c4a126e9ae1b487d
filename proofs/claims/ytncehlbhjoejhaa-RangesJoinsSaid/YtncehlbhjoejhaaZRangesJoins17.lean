/- Texts of the claim, packed: H23, H44, H45. -/
import Derived.Laws.BitsAllLaws
import Derived.Laws.IdiomStrings
import Derived.Lib.Hide
import Derived.Test.YtncehlbhjoejhaaZRangesJoins4
import Derived.Test.YtncehlbhjoejhaaZRangesJoins6
import Derived.Test.YtncehlbhjoejhaaZRangesJoins9
import Derived.Test.YtncehlbhjoejhaaZRangesJoins16
section
-- Laid by this session's hprint.py, out of the kit's print.py and texts of the session. Not trusted: Lean checks it.
namespace Go.Proofs.Ytncehlbhjoejhaa.H
open Go.RowKit Go.Proofs.YtncehlbhjoejhaaW.PrintWords Go.Proofs.YtncehlbhjoejhaaW.PrintLast Go.Proofs.YtncehlbhjoejhaaW.PrintMore
attribute [local go_sem] max2_int min2_int max_two min_two max_three min_three max_four min_four   -- for this text's walks alone
set_option linter.unusedVariables false
set_option linter.unusedSimpArgs false

-- OVPART Derived.Lib.Hide Derived.Laws.IdiomStrings Derived.Laws.BitsAllLaws
def leI (s : ByteArray) : Nat → Int
 | 0 => 0
 | k + 1 => bits .or .u64 (leI s k) (shl .u64 (bt s k) (8 * (k : Int)))
def wideI (k : Int) : Int := if k = 0 then 1 else if k = 1 ∨ k = 4 then 4 else if k = 2 ∨ k = 5 then 8 else 0
def readI (k : Int) (s : ByteArray) : Int := if k = 1 then IntKind.i32.wrap (leI s s.size) else IntKind.i64.wrap (leI s s.size)
def ranges_Read.f (t0 t1 : Int) (s : ByteArray) : Option (Int × Int × ByteArray × Int) :=
 if s.size ≤ 140737488351232 then
  (if datum_Check.v t0 t1 ≠ 0 then some (0, 0, ⟨#[]⟩, 2)
  else if wideI t0 = 0 then (if ofB t0 t1 ⟨t0, 0, s⟩ = true then some (t0, 0, s, 0) else some (0, 0, ⟨#[]⟩, 320))
  else if wideI t0 ≠ (s.size : Int) then some (0, 0, ⟨#[]⟩, 320)
  else if ofB t0 t1 ⟨t0, readI t0 s, ⟨#[]⟩⟩ = true then some (t0, readI t0 s, ⟨#[]⟩, 0) else some (0, 0, ⟨#[]⟩, 320))
 else none
theorem wide_of (k : Int) : ranges_wide.f k = some (wideI k) := by
 unfold ranges_wide.f wideI
 repeat' split
 all_goals first | rfl | (exfalso; omega)
structure SR (w W : World) (t0 t1 : Int) : Prop where
 b0 : W.heap[w.heap.size]? = some (.cells #[.int .i64 t0, .int .i64 t1] 24 (0, 0))
 b1 : W.heap[w.heap.size + 1]? = some (.cells #[.int .i64 0, .int .i64 0, .string ⟨#[]⟩] 29 (0, 0))
 below : Below w.heap.size w W
theorem SR.next {w W W' : World} {t0 t1 : Int} (h : SR w W t0 t1) (hb : Below W.heap.size W W') : SR w W' t0 t1 := ⟨blk_below h.b0 hb, blk_below h.b1 hb, below_step h.below hb⟩
theorem SR.start (w : World) (t0 t1 : Int) : SR w ((w.alloc (.cells #[.int .i64 t0, .int .i64 t1] 24)).alloc (.cells #[.int .i64 0, .int .i64 0, .string ⟨#[]⟩] 29)) t0 t1 := by
 refine ⟨blk_alloc (blk_new w _) _, ?_, below_alloc (below_alloc (Below.refl _ _) _) _⟩
 have h := blk_new (w.alloc (.cells #[.int .i64 t0, .int .i64 t1] 24)) (.cells #[.int .i64 0, .int .i64 0, .string ⟨#[]⟩] 29)
 rw [World.size_alloc] at h
 exact h
theorem SR.cells {w W : World} {t0 t1 : Int} (h : SR w W t0 t1) : W.cell? ⟨w.heap.size, 0, none⟩ = some (.int .i64 t0) ∧ W.cell? ⟨w.heap.size, 1, none⟩ = some (.int .i64 t1) ∧
  W.cell? ⟨w.heap.size + 1, 0, none⟩ = some (.int .i64 0) ∧ W.cell? ⟨w.heap.size + 1, 1, none⟩ = some (.int .i64 0) ∧ W.cell? ⟨w.heap.size + 1, 2, none⟩ = some (.string ⟨#[]⟩) ∧
  W.frozen? ⟨w.heap.size + 1, 0, none⟩ = false ∧ W.frozen? ⟨w.heap.size + 1, 1, none⟩ = false ∧ W.frozen? ⟨w.heap.size + 1, 2, none⟩ = false :=
 ⟨blk_cell h.b0 0, blk_cell h.b0 1, blk_cell h.b1 0, blk_cell h.b1 1, blk_cell h.b1 2, blk_frozen h.b1 0, blk_frozen h.b1 1, blk_frozen h.b1 2⟩
structure SD (w W : World) (B : Nat) (t0 t1 i : Int) (t : ByteArray) : Prop where
 sr : SR w W t0 t1
 lt : w.heap.size + 1 < B
 kd : W.heap[B]? = some (.cells #[.int .i64 t0, .int .i64 i, .string t] 29 (0, 0))
theorem SD.next {w W W' : World} {B : Nat} {t0 t1 i : Int} {t : ByteArray} (h : SD w W B t0 t1 i t) (hb : Below W.heap.size W W') : SD w W' B t0 t1 i t := ⟨h.sr.next hb, h.lt, blk_below h.kd hb⟩
theorem SD.start {w W : World} {t0 t1 : Int} (h : SR w W t0 t1) : SD w (W.alloc (.cells #[.int .i64 t0, .int .i64 0, .string ⟨#[]⟩] 29)) W.heap.size t0 t1 0 ⟨#[]⟩ := ⟨h.next (below_alloc (Below.refl _ _) _), blk_lt h.b1, blk_new W _⟩
theorem SD.cells {w W : World} {B : Nat} {t0 t1 i : Int} {t : ByteArray} (h : SD w W B t0 t1 i t) : W.cell? ⟨B, 0, none⟩ = some (.int .i64 t0) ∧ W.cell? ⟨B, 1, none⟩ = some (.int .i64 i) ∧ W.cell? ⟨B, 2, none⟩ = some (.string t) ∧ W.frozen? ⟨B, 0, none⟩ = false ∧ W.frozen? ⟨B, 1, none⟩ = false ∧ W.frozen? ⟨B, 2, none⟩ = false :=
 ⟨blk_cell h.kd 0, blk_cell h.kd 1, blk_cell h.kd 2, blk_frozen h.kd 0, blk_frozen h.kd 1, blk_frozen h.kd 2⟩
theorem SR.far {w W : World} {B : Nat} {t0 t1 : Int} (h : SR w W t0 t1) (hB : w.heap.size + 1 < B) (k : Nat) (v : Value) : SR w (W.setCell ⟨B, k, none⟩ v) t0 t1 :=
 ⟨blk_far h.b0 (p := ⟨B, k, none⟩) (by show w.heap.size ≠ B; omega) v, blk_far h.b1 (p := ⟨B, k, none⟩) (by show w.heap.size + 1 ≠ B; omega) v, h.below.setCell (p := ⟨B, k, none⟩) (by show w.heap.size ≤ B; omega) v⟩
theorem SD.setI {w W : World} {B : Nat} {t0 t1 i : Int} {t : ByteArray} (h : SD w W B t0 t1 i t) (j : Int) : SD w (W.setCell ⟨B, 1, none⟩ (.int .i64 j)) B t0 t1 j t := ⟨h.sr.far h.lt 1 _, h.lt, blk_put h.kd 1 _ rfl⟩
theorem SD.setT {w W : World} {B : Nat} {t0 t1 i : Int} {t : ByteArray} (h : SD w W B t0 t1 i t) (u : ByteArray) : SD w (W.setCell ⟨B, 2, none⟩ (.string u)) B t0 t1 i u := ⟨h.sr.far h.lt 2 _, h.lt, blk_put h.kd 2 _ rfl⟩
theorem of_val (t0 t1 : Int) (x : S29) : datum_Of.f x.f0 x.f1 x.f2 t0 t1 = some (ofB t0 t1 x) := by
 obtain ⟨b, hb⟩ := of_some x.f0 x.f1 x.f2 t0 t1
 unfold ofB
 rw [hb]
 rfl
theorem bt_range (s : ByteArray) (i : Int) : 0 ≤ bt s i ∧ bt s i < 256 := by
 unfold bt
 split
 ·rename_i h
  have := (s[i.toNat]'h).toNat_lt
  omega
 ·omega
theorem wrap_one (s : ByteArray) : wrap64 (wrap32 (leI s s.size)) = readI 1 s := by
 unfold readI
 rw [if_pos rfl]
 simp only [IntKind.wrap, IntKind.bits, IntKind.signed, wrap64, wrap32, Bool.true_and, decide_eq_true_eq]
 generalize leI s s.size = x
 simp only [show (2 : Int) ^ 32 = 4294967296 from rfl, show (2 : Int) ^ (32 - 1) = 2147483648 from rfl, show (2 : Int) ^ 64 = 18446744073709551616 from rfl, show (2 : Int) ^ (64 - 1) = 9223372036854775808 from rfl]
 split <;> (rename_i hq; simp at hq; omega)
theorem wrap_else (k : Int) (s : ByteArray) (hk : ¬ k = 1) : wrap64 (leI s s.size) = readI k s := by
 unfold readI
 rw [if_neg hk]
 simp only [IntKind.wrap, IntKind.bits, IntKind.signed, wrap64, wrap32, Bool.true_and, decide_eq_true_eq]
 generalize leI s s.size = x
 simp only [show (2 : Int) ^ 32 = 4294967296 from rfl, show (2 : Int) ^ (32 - 1) = 2147483648 from rfl, show (2 : Int) ^ 64 = 18446744073709551616 from rfl, show (2 : Int) ^ (64 - 1) = 9223372036854775808 from rfl]
 split <;> (rename_i hq; simp at hq; omega)
set_option maxHeartbeats 8000000 in
set_option maxRecDepth 100000 in
theorem ranges_Read.calls (a0_0 : Int) (a0_1 : Int) (a1 : ByteArray) (r1 : Int) (r2 : Int) (r3 : ByteArray) (r4 : Int) (w : World) (h : ranges_Read.f a0_0 a0_1 a1 = some (r1, r2, r3, r4)) :
  Calls Try.prog 18 #[.agg #[.int .i64 a0_0, .int .i64 a0_1], .string a1] w fun e w' => e = .returned (.tuple #[.agg #[.int .i64 r1, .int .i64 r2, .string r3], .int .i64 r4]) ∧ Below w.heap.size w w' := by
 unfold ranges_Read.f at h
 split at h
 case isFalse => cases h
 case isTrue hlen =>
 have hS := SR.start w a0_0 a0_1
 obtain ⟨W0, hW0⟩ : ∃ W0, W0 = (w.alloc (.cells #[.int .i64 a0_0, .int .i64 a0_1] 24)).alloc (.cells #[.int .i64 0, .int .i64 0, .string ⟨#[]⟩] 29) := ⟨_, rfl⟩
 rw [← hW0] at hS
 have HW0 := Lib.hid hW0
 clear hW0
 by_cases hchk : datum_Check.v a0_0 a0_1 ≠ 0
 ·rw [if_pos hchk] at h
  simp only [Option.some.injEq, Prod.mk.injEq] at h
  obtain ⟨rfl, rfl, rfl, rfl⟩ := h
  have hk0 : (datum_Check.v a0_0 a0_1 != 0) = true := bne_iff_ne.mpr hchk
  clear hchk
  go_enter Try.func18, Try.ntmps18
  go_wp2_with fail
  rw [← HW0.out]
  refine (datum_Check.calls a0_0 a0_1 _ W0 rfl).mono ?_
  rintro e w1 ⟨rfl, hB1⟩
  have hS1 := hS.next hB1
  obtain ⟨hc0, hc1', hc2, hc3, hc4, hf2, hf3, hf4⟩ := hS1.cells
  go_wp2_with fail
  refine bodyPost_ret (results_ct rfl _ _ (w.heap.size + 1) 29 #[.int .i64 0, .int .i64 0, .string ⟨#[]⟩] (0, 0) _ rfl (put3 hS1.b1 _ _ _) Try.underlying29 rfl (by kernel_rfl)) rfl ?_
  exact ⟨rfl, ((hS1.below.setCell (p := ⟨w.heap.size + 1, 0, none⟩) (Nat.le_succ _) _).setCell (p := ⟨w.heap.size + 1, 1, none⟩) (Nat.le_succ _) _).setCell (p := ⟨w.heap.size + 1, 2, none⟩) (Nat.le_succ _) _⟩
 rw [if_neg hchk] at h
 have hchk' : datum_Check.v a0_0 a0_1 = 0 := Decidable.not_not.mp hchk
 have hk0 : (datum_Check.v a0_0 a0_1 != 0) = false := bne_eq_false_iff_eq.mpr hchk'
 clear hchk hchk'
 have hw1 := wide_of a0_0
 obtain ⟨n, hn⟩ : ∃ n, n = wideI a0_0 := ⟨_, rfl⟩
 have hn8 : n = 0 ∨ n = 1 ∨ n = 4 ∨ n = 8 := by
  rw [hn]
  unfold wideI
  repeat' split
  all_goals simp
 rw [← hn] at h hw1
 have HW1 := Lib.hid hw1
 clear hn hw1
 go_enter Try.func18, Try.ntmps18
 go_wp2_with fail
 rw [← HW0.out]
 refine (datum_Check.calls a0_0 a0_1 _ W0 rfl).mono ?_
 rintro e w1 ⟨rfl, hB1⟩
 have hS1 := hS.next hB1
 obtain ⟨hc0, hc1', hc2, hc3, hc4, hf2, hf3, hf4⟩ := hS1.cells
 have hlt1 := blk_lt hS1.b1
 have hltA : w.heap.size < w1.heap.size := by omega
 go_wp2_with fail
 refine (ranges_wide.calls a0_0 n _ HW1.out).mono ?_
 rintro e w2 ⟨rfl, hD2⟩
 have h2 := (SD.start hS1).next hD2.below
 obtain ⟨hd0, hd1, hd2, hg0, hg1, hg2⟩ := h2.cells
 clear hc0 hc1' hc2 hc3 hc4 hf2 hf3 hf4
 obtain ⟨hc0, hc1', hc2, hc3, hc4, hf2, hf3, hf4⟩ := h2.sr.cells
 have hlt2 := h2.lt
 obtain ⟨B, hB⟩ : ∃ B, B = w1.heap.size := ⟨_, rfl⟩
 rw [← hB] at h2 hlt2 hd0 hd1 hd2 hg0 hg1 hg2 ⊢
 clear hB hlt1 hltA hS1 hB1 hS hD2
 by_cases hn0 : n = 0
 ·subst hn0
  rw [if_pos rfl] at h
  have h3 := h2.setT a1
  have hOf := of_val a0_0 a0_1 ⟨a0_0, 0, a1⟩
  by_cases hob : ofB a0_0 a0_1 ⟨a0_0, 0, a1⟩ = true
  ·rw [if_pos hob] at h
   simp only [Option.some.injEq, Prod.mk.injEq] at h
   obtain ⟨rfl, rfl, rfl, rfl⟩ := h
   rw [hob] at hOf
   have HOF := Lib.hid hOf
   clear hOf hob
   go_wp2_with fail
   refine (datum_Of.calls _ _ _ _ _ _ _ HOF.out).mono ?_
   rintro e w5 ⟨rfl, hB5⟩
   have h5 := h3.next hB5
   obtain ⟨hd0, hd1, hd2, hg0, hg1, hg2⟩ := h5.cells
   obtain ⟨hc0, hc1', hc2, hc3, hc4, hf2, hf3, hf4⟩ := h5.sr.cells
   have hlt := h5.lt
   go_wp2_with fail
   refine bodyPost_ret (results_ct rfl _ _ (w.heap.size + 1) 29 #[.int .i64 a0_0, .int .i64 (0), .string a1] (0, 0) _ rfl (put3 h5.sr.b1 _ _ _) Try.underlying29 rfl (by kernel_rfl)) rfl ?_
   exact ⟨rfl, ((h5.sr.below.setCell (p := ⟨w.heap.size + 1, 0, none⟩) (Nat.le_succ _) _).setCell (p := ⟨w.heap.size + 1, 1, none⟩) (Nat.le_succ _) _).setCell (p := ⟨w.heap.size + 1, 2, none⟩) (Nat.le_succ _) _⟩
  ·rw [if_neg hob] at h
   simp only [Option.some.injEq, Prod.mk.injEq] at h
   obtain ⟨rfl, rfl, rfl, rfl⟩ := h
   have hob' : ofB a0_0 a0_1 ⟨a0_0, 0, a1⟩ = false := by simpa using hob
   rw [hob'] at hOf
   have HOF := Lib.hid hOf
   clear hOf hob hob'
   go_wp2_with fail
   refine (datum_Of.calls _ _ _ _ _ _ _ HOF.out).mono ?_
   rintro e w5 ⟨rfl, hB5⟩
   have h5 := h3.next hB5
   obtain ⟨hc0, hc1', hc2, hc3, hc4, hf2, hf3, hf4⟩ := h5.sr.cells
   go_wp2_with fail
   refine bodyPost_ret (results_ct rfl _ _ (w.heap.size + 1) 29 #[.int .i64 0, .int .i64 0, .string ⟨#[]⟩] (0, 0) _ rfl (put3 h5.sr.b1 _ _ _) Try.underlying29 rfl (by kernel_rfl)) rfl ?_
   exact ⟨rfl, ((h5.sr.below.setCell (p := ⟨w.heap.size + 1, 0, none⟩) (Nat.le_succ _) _).setCell (p := ⟨w.heap.size + 1, 1, none⟩) (Nat.le_succ _) _).setCell (p := ⟨w.heap.size + 1, 2, none⟩) (Nat.le_succ _) _⟩
 ·rw [if_neg hn0] at h
  have hn0b : (n == 0) = false := beq_eq_false_iff_ne.mpr hn0
  by_cases hns : n ≠ (a1.size : Int)
  ·rw [if_pos hns] at h
   simp only [Option.some.injEq, Prod.mk.injEq] at h
   obtain ⟨rfl, rfl, rfl, rfl⟩ := h
   have hnsb : (n != (a1.size : Int)) = true := bne_iff_ne.mpr hns
   clear hns hn0
   go_wp2_with fail
   refine bodyPost_ret (results_ct rfl _ _ (w.heap.size + 1) 29 #[.int .i64 0, .int .i64 0, .string ⟨#[]⟩] (0, 0) _ rfl (put3 h2.sr.b1 _ _ _) Try.underlying29 rfl (by kernel_rfl)) rfl ?_
   exact ⟨rfl, ((h2.sr.below.setCell (p := ⟨w.heap.size + 1, 0, none⟩) (Nat.le_succ _) _).setCell (p := ⟨w.heap.size + 1, 1, none⟩) (Nat.le_succ _) _).setCell (p := ⟨w.heap.size + 1, 2, none⟩) (Nat.le_succ _) _⟩
  ·rw [if_neg hns] at h
   have hns' : n = (a1.size : Int) := Decidable.not_not.mp hns
   have hnsb : (n != (a1.size : Int)) = false := bne_eq_false_iff_eq.mpr hns'
   subst hns'
   clear hns hnsb
   have kc := fun (w : World) => run_bytes_of_string (P := Try.prog) w 9 78 5 a1 Try.underlying9 Try.underlying78 Try.underlying5
   go_wp2_with fail
   go_loopw [9, 26] (fun va vi wr => ∃ k : Nat, k ≤ a1.size ∧ vi = .int .i64 k ∧ va = .int .u64 (leI a1 k) ∧ SD w wr B a0_0 a0_1 0 ⟨#[]⟩ ∧ Hid (∀ j : Nat, j < a1.size → wr.cell? ⟨w2.heap.size, j, none⟩ = some (.int .u8 (bt a1 (j : Int))))) (fun _ vi _ => a1.size - (intOf vi).toNat)
   case atStart =>
    refine ⟨0, Nat.zero_le _, by go_num, rfl, h2.next ((below_alloc (Below.refl _ _) _).drew), Lib.hid (fun j hj => ?_)⟩
    have hj' : j < a1.data.size := hj
    have hc := (World.cell?_alloc_mark w2 (bytesRow a1 (grownCap w2 a1.size 0 5)) 5 ((bytesRow a1 (grownCap w2 a1.size 0 5)).size, (bytesRow a1 (grownCap w2 a1.size 0 5)).size + 1) j).trans (bytesRow_at a1 _ j hj')
    refine Eq.trans ?_ (hc.trans ?_)
    ·rfl
    ·unfold bt
     rw [dif_pos (show ((j : Int)).toNat < a1.size by simpa using hj)]
     rfl
   case round =>
    obtain ⟨k, hk, rfl, rfl, hD, hrow⟩ := hrel
    by_cases hkn : k < a1.size
    ·have hx := hrow.out k hkn
     have hle : leI a1 (k + 1) = bits .or .u64 (leI a1 k) (shl .u64 (bt a1 k) (8 * (k : Int))) := rfl
     have hb := bt_range a1 (k : Int)
     generalize bt a1 (k : Int) = x at *
     go_wp2_with fail
     go_roundw
     case rel =>
      refine ⟨k + 1, by omega, by go_num, ?_, hD, hrow⟩
      rw [hle]
      unfold shl
      rw [show min (8 * (k : Int)).toNat IntKind.u64.bits = 8 * k by
       have : IntKind.u64.bits = 64 := rfl
       rw [this]
       omega]
     case measure => simp [intOf]; omega
    ·have hke : k = a1.size := by omega
     subst hke
     obtain ⟨hd0, hd1, hd2, hg0, hg1, hg2⟩ := hD.cells
     obtain ⟨hc0, hc1', hc2, hc3, hc4, hf2, hf3, hf4⟩ := hD.sr.cells
     have hlt := hD.lt
     by_cases hk1 : a0_0 = 1
     ·have hk1b : (a0_0 == 1) = true := beq_iff_eq.mpr hk1
      subst hk1
      have HR := Lib.hid (wrap_one a1)
      generalize leI a1 a1.size = x at *
      go_wp2_with fail
      rw [HR.out]
      have h4 := (hD.setI (wrap64 x)).setI (readI 1 a1)
      have hOf := of_val 1 a0_1 ⟨1, readI 1 a1, ⟨#[]⟩⟩
      by_cases hob : ofB 1 a0_1 ⟨1, readI 1 a1, ⟨#[]⟩⟩ = true
      ·rw [if_pos hob] at h
       simp only [Option.some.injEq, Prod.mk.injEq] at h
       obtain ⟨rfl, rfl, rfl, rfl⟩ := h
       rw [hob] at hOf
       have HOF := Lib.hid hOf
       clear hOf hob
       refine (datum_Of.calls _ _ _ _ _ _ _ HOF.out).mono ?_
       rintro e w5 ⟨rfl, hB5⟩
       have h5 := h4.next hB5
       obtain ⟨hd0, hd1, hd2, hg0, hg1, hg2⟩ := h5.cells
       obtain ⟨hc0, hc1', hc2, hc3, hc4, hf2, hf3, hf4⟩ := h5.sr.cells
       have hlt := h5.lt
       go_wp2_with fail
       refine bodyPost_ret (results_ct rfl _ _ (w.heap.size + 1) 29 #[.int .i64 1, .int .i64 (readI 1 a1), .string ⟨#[]⟩] (0, 0) _ rfl (put3 h5.sr.b1 _ _ _) Try.underlying29 rfl (by kernel_rfl)) rfl ?_
       exact ⟨rfl, ((h5.sr.below.setCell (p := ⟨w.heap.size + 1, 0, none⟩) (Nat.le_succ _) _).setCell (p := ⟨w.heap.size + 1, 1, none⟩) (Nat.le_succ _) _).setCell (p := ⟨w.heap.size + 1, 2, none⟩) (Nat.le_succ _) _⟩
      ·rw [if_neg hob] at h
       simp only [Option.some.injEq, Prod.mk.injEq] at h
       obtain ⟨rfl, rfl, rfl, rfl⟩ := h
       have hob' : ofB 1 a0_1 ⟨1, readI 1 a1, ⟨#[]⟩⟩ = false := by simpa using hob
       rw [hob'] at hOf
       have HOF := Lib.hid hOf
       clear hOf hob hob'
       refine (datum_Of.calls _ _ _ _ _ _ _ HOF.out).mono ?_
       rintro e w5 ⟨rfl, hB5⟩
       have h5 := h4.next hB5
       obtain ⟨hc0, hc1', hc2, hc3, hc4, hf2, hf3, hf4⟩ := h5.sr.cells
       go_wp2_with fail
       refine bodyPost_ret (results_ct rfl _ _ (w.heap.size + 1) 29 #[.int .i64 0, .int .i64 0, .string ⟨#[]⟩] (0, 0) _ rfl (put3 h5.sr.b1 _ _ _) Try.underlying29 rfl (by kernel_rfl)) rfl ?_
       exact ⟨rfl, ((h5.sr.below.setCell (p := ⟨w.heap.size + 1, 0, none⟩) (Nat.le_succ _) _).setCell (p := ⟨w.heap.size + 1, 1, none⟩) (Nat.le_succ _) _).setCell (p := ⟨w.heap.size + 1, 2, none⟩) (Nat.le_succ _) _⟩
     ·have hk1b : (a0_0 == 1) = false := beq_eq_false_iff_ne.mpr hk1
      have HR := Lib.hid (wrap_else a0_0 a1 hk1)
      clear hk1
      generalize leI a1 a1.size = x at *
      go_wp2_with fail
      rw [HR.out]
      have h4 := hD.setI (readI a0_0 a1)
      have hOf := of_val a0_0 a0_1 ⟨a0_0, readI a0_0 a1, ⟨#[]⟩⟩
      by_cases hob : ofB a0_0 a0_1 ⟨a0_0, readI a0_0 a1, ⟨#[]⟩⟩ = true
      ·rw [if_pos hob] at h
       simp only [Option.some.injEq, Prod.mk.injEq] at h
       obtain ⟨rfl, rfl, rfl, rfl⟩ := h
       rw [hob] at hOf
       have HOF := Lib.hid hOf
       clear hOf hob
       refine (datum_Of.calls _ _ _ _ _ _ _ HOF.out).mono ?_
       rintro e w5 ⟨rfl, hB5⟩
       have h5 := h4.next hB5
       obtain ⟨hd0, hd1, hd2, hg0, hg1, hg2⟩ := h5.cells
       obtain ⟨hc0, hc1', hc2, hc3, hc4, hf2, hf3, hf4⟩ := h5.sr.cells
       have hlt := h5.lt
       go_wp2_with fail
       refine bodyPost_ret (results_ct rfl _ _ (w.heap.size + 1) 29 #[.int .i64 a0_0, .int .i64 (readI a0_0 a1), .string ⟨#[]⟩] (0, 0) _ rfl (put3 h5.sr.b1 _ _ _) Try.underlying29 rfl (by kernel_rfl)) rfl ?_
       exact ⟨rfl, ((h5.sr.below.setCell (p := ⟨w.heap.size + 1, 0, none⟩) (Nat.le_succ _) _).setCell (p := ⟨w.heap.size + 1, 1, none⟩) (Nat.le_succ _) _).setCell (p := ⟨w.heap.size + 1, 2, none⟩) (Nat.le_succ _) _⟩
      ·rw [if_neg hob] at h
       simp only [Option.some.injEq, Prod.mk.injEq] at h
       obtain ⟨rfl, rfl, rfl, rfl⟩ := h
       have hob' : ofB a0_0 a0_1 ⟨a0_0, readI a0_0 a1, ⟨#[]⟩⟩ = false := by simpa using hob
       rw [hob'] at hOf
       have HOF := Lib.hid hOf
       clear hOf hob hob'
       refine (datum_Of.calls _ _ _ _ _ _ _ HOF.out).mono ?_
       rintro e w5 ⟨rfl, hB5⟩
       have h5 := h4.next hB5
       obtain ⟨hc0, hc1', hc2, hc3, hc4, hf2, hf3, hf4⟩ := h5.sr.cells
       go_wp2_with fail
       refine bodyPost_ret (results_ct rfl _ _ (w.heap.size + 1) 29 #[.int .i64 0, .int .i64 0, .string ⟨#[]⟩] (0, 0) _ rfl (put3 h5.sr.b1 _ _ _) Try.underlying29 rfl (by kernel_rfl)) rfl ?_
       exact ⟨rfl, ((h5.sr.below.setCell (p := ⟨w.heap.size + 1, 0, none⟩) (Nat.le_succ _) _).setCell (p := ⟨w.heap.size + 1, 1, none⟩) (Nat.le_succ _) _).setCell (p := ⟨w.heap.size + 1, 2, none⟩) (Nat.le_succ _) _⟩


end Go.Proofs.Ytncehlbhjoejhaa.H
end
section
-- Laid by this session's hprint.py, out of the kit's print.py and texts of the session. Not trusted: Lean checks it.
namespace Go.Proofs.Ytncehlbhjoejhaa.H
open Go.RowKit Go.Proofs.YtncehlbhjoejhaaW.PrintWords Go.Proofs.YtncehlbhjoejhaaW.PrintLast Go.Proofs.YtncehlbhjoejhaaW.PrintMore
attribute [local go_sem] max2_int min2_int max_two min_two max_three min_three max_four min_four   -- for this text's walks alone
set_option linter.unusedVariables false
set_option linter.unusedSimpArgs false

-- OVPART Derived.Lib.Hide Derived.Laws.BitsAllLaws
def nI (s : ByteArray) : Nat → Int
 | 0 => 0
 | k + 1 => if bt s k ≥ 128 then (if (k : Int) < 7 then wrap64 (wrap64 (nI s k + wrap64 (bt s k % 128 * 2 ^ (8 * k))) + wrap64 (128 * 2 ^ (8 * k))) else if (k : Int) = 7 then wrap64 (wrap64 (nI s k + wrap64 (bt s k % 128 * 2 ^ (8 * k))) + -9223372036854775808) else wrap64 (nI s k + wrap64 (bt s k % 128 * 2 ^ (8 * k)))) else wrap64 (nI s k + wrap64 (bt s k % 128 * 2 ^ (8 * k)))
def marquetryref22_number.f (s : ByteArray) : Option Int := if s.size ≤ 8 then some (nI s s.size) else none
set_option maxHeartbeats 4000000 in
set_option maxRecDepth 100000 in
theorem marquetryref22_number.calls (a0 : ByteArray) (r : Int) (w : World) (h : marquetryref22_number.f a0 = some r) :
  Calls Try.prog 47 #[.string a0] w fun e w' => e = .returned (.int .i64 r) ∧ Below w.heap.size w w' := by
 unfold marquetryref22_number.f at h
 split at h
 case isFalse => cases h
 case isTrue hlen =>
 obtain rfl := Option.some.inj h
 clear h
 go_enter Try.func47, Try.ntmps47
 go_wp2_with fail
 go_loopw [3, 4] (fun vn vi wr => ∃ k : Nat, k ≤ a0.size ∧ vi = .int .i64 k ∧ vn = .int .i64 (nI a0 k) ∧ wr = w) (fun _ vi _ => a0.size - (intOf vi).toNat)
 case atStart => exact ⟨0, Nat.zero_le _, by go_num, rfl, rfl⟩
 case round =>
  obtain ⟨k, hk, rfl, rfl, rfl⟩ := hrel
  by_cases hkn : k < a0.size
  ·have hle : nI a0 (k + 1) = (if bt a0 k ≥ 128 then (if (k : Int) < 7 then wrap64 (wrap64 (nI a0 k + wrap64 (bt a0 k % 128 * 2 ^ (8 * k))) + wrap64 (128 * 2 ^ (8 * k))) else if (k : Int) = 7 then wrap64 (wrap64 (nI a0 k + wrap64 (bt a0 k % 128 * 2 ^ (8 * k))) + -9223372036854775808) else wrap64 (nI a0 k + wrap64 (bt a0 k % 128 * 2 ^ (8 * k)))) else wrap64 (nI a0 k + wrap64 (bt a0 k % 128 * 2 ^ (8 * k)))) := rfl
   have hxe : bt a0 (k : Int) = ((a0[k]'hkn).toNat : Int) := by
    have hx := bt_at a0 (k : Int) (by simpa using hkn)
    rw [← hx]
    simp
   rw [hxe] at hle
   have hb := bt_range a0 (k : Int)
   rw [hxe] at hb
   clear hxe
   have p : (0 ≤ (k : Int)) = True := eq_true (by omega)
   have q : ((k : Int) < (a0.size : Int)) = True := eq_true (by omega)
   obtain ⟨x, hx⟩ : ∃ x : Int, x = ((a0[k]'hkn).toNat : Int) := ⟨_, rfl⟩
   rw [← hx] at hle hb
   have HX := Lib.hid hx
   by_cases hx128 : x ≥ 128
   ·rw [if_pos hx128] at hle
    have d1 : decide (128 ≤ ((a0[k]'hkn).toNat : Int)) = true := decide_eq_true (hx ▸ hx128)
    have d1' : 128 ≤ (a0[k]'hkn).toNat := by omega
    clear hx hb
    by_cases hk7 : (k : Int) < 7
    ·rw [if_pos hk7] at hle
     have d2 : decide ((k : Int) < 7) = true := decide_eq_true hk7
     have d3 : ((k : Int) == 7) = false := beq_eq_false_iff_ne.mpr (by omega)
     have HLE := Lib.hid hle
     clear hle hx128 hk7
     go_wp2_with fail
     go_roundw
     case rel => exact ⟨k + 1, by omega, by go_num, by rw [HLE.out, HX.out], trivial⟩
     case measure => simp [intOf]; omega
    ·rw [if_neg hk7] at hle
     have hk8 : (k : Int) = 7 := by omega
     rw [if_pos hk8] at hle
     have d2 : decide ((k : Int) < 7) = false := decide_eq_false hk7
     have d3 : ((k : Int) == 7) = true := beq_iff_eq.mpr hk8
     have HLE := Lib.hid hle
     clear hle hx128 hk7 hk8
     go_wp2_with fail
     go_roundw
     case rel => exact ⟨k + 1, by omega, by go_num, by rw [HLE.out, HX.out], trivial⟩
     case measure => simp [intOf]; omega
   ·rw [if_neg hx128] at hle
    have d1 : decide (128 ≤ ((a0[k]'hkn).toNat : Int)) = false := decide_eq_false (hx ▸ hx128)
    have d1' : ¬ 128 ≤ (a0[k]'hkn).toNat := by omega
    clear hx hb
    have HLE := Lib.hid hle
    clear hle hx128
    go_wp2_with fail
    go_roundw
    case rel => exact ⟨k + 1, by omega, by go_num, by rw [HLE.out, HX.out], trivial⟩
    case measure => simp [intOf]; omega
  ·have hke : k = a0.size := by omega
   subst hke
   go_wp2_with fail
   go_ret
   exact ⟨rfl, Below.refl _ _⟩


end Go.Proofs.Ytncehlbhjoejhaa.H
end
section
-- Laid by this session's hprint.py, out of the kit's print.py and texts of the session. Not trusted: Lean checks it.
namespace Go.Proofs.Ytncehlbhjoejhaa.H
open Go.RowKit Go.Proofs.YtncehlbhjoejhaaW.PrintWords Go.Proofs.YtncehlbhjoejhaaW.PrintLast Go.Proofs.YtncehlbhjoejhaaW.PrintMore
attribute [local go_sem] max2_int min2_int max_two min_two max_three min_three max_four min_four   -- for this text's walks alone
set_option linter.unusedVariables false
set_option linter.unusedSimpArgs false

mutual
def marquetryref22_Read.j1 : Nat → ByteArray → Int → Int → Int → Int → ByteArray → Option (Int × Int × ByteArray × Int)
 | 0, _, _, _, _, _, _ => none
 | k + 1, x1, x142000, x142001, x145000, x145001, x145002 => (marquetryref09_Of.f k x145000 x145001 x145002 x142000 x142001).bind fun t146 => (if t146 = true then ((marquetryref22_Lay.f k x145000 x145001 x145002).bind fun t147 => (if t147.toList = x1.toList then (some (x145000, x145001, x145002, 0)) else (some (0, 0, (⟨#[]⟩ : ByteArray), 320)))) else (some (0, 0, (⟨#[]⟩ : ByteArray), 320)))
def marquetryref22_Read.j0 : Nat → ByteArray → Bool → Int → Int → Int → Int → ByteArray → Option (Int × Int × ByteArray × Int)
 | 0, _, _, _, _, _, _, _ => none
 | k + 1, x1, x35, x142000, x142001, x145000, x145001, x145002 => if x35 = true then (marquetryref22_Read.j1 k x1 x142000 x142001 x145000 x145001 x1) else (if (x1.size : Int) > 8 then (some (0, 0, (⟨#[]⟩ : ByteArray), 320)) else ((marquetryref22_number.f x1).bind fun t145 => (if x142000 = 1 then (if t145 > 2147483647 then (marquetryref22_Read.j1 k x1 x142000 x142001 x145000 (wrap64 (t145 - 4294967296)) x145002) else (marquetryref22_Read.j1 k x1 x142000 x142001 x145000 t145 x145002)) else (marquetryref22_Read.j1 k x1 x142000 x142001 x145000 t145 x145002))))
end
def marquetryref22_Read.f (k : Nat) (a0_0 : Int) (a0_1 : Int) (a1 : ByteArray) : Option (Int × Int × ByteArray × Int) := (marquetryref09_Check.f k a0_0 a0_1).bind fun t143 => (if t143 = true then (if a0_0 = 6 then (marquetryref22_Read.j0 k a1 (a0_0 == 6) a0_0 a0_1 a0_0 0 (⟨#[]⟩ : ByteArray)) else (marquetryref22_Read.j0 k a1 (a0_0 == 7) a0_0 a0_1 a0_0 0 (⟨#[]⟩ : ByteArray))) else (some (0, 0, (⟨#[]⟩ : ByteArray), 2)))
theorem marquetryref22_Read.mono_l : ∀ k, (∀ y0 y1 y2 y3 y4 y5, LeO (marquetryref22_Read.j1 k y0 y1 y2 y3 y4 y5) (marquetryref22_Read.j1 (k + 1) y0 y1 y2 y3 y4 y5)) ∧ (∀ y0 y1 y2 y3 y4 y5 y6, LeO (marquetryref22_Read.j0 k y0 y1 y2 y3 y4 y5 y6) (marquetryref22_Read.j0 (k + 1) y0 y1 y2 y3 y4 y5 y6))
 | 0 => ⟨fun _ _ _ _ _ _ r h => by simp [marquetryref22_Read.j1] at h, fun _ _ _ _ _ _ _ r h => by simp [marquetryref22_Read.j0] at h⟩
 | k + 1 => by
  obtain ⟨ih0, ih1⟩ := marquetryref22_Read.mono_l k
  refine ⟨?_, ?_⟩
  ·intro y0 y1 y2 y3 y4 y5
   unfold marquetryref22_Read.j1
   repeat' first
   | (with_reducible exact ih0 _ _ _ _ _ _)
   | (with_reducible exact ih1 _ _ _ _ _ _ _)
   | (with_reducible exact marquetryref09_Check.mono _ _ _)
   | (with_reducible exact marquetryref09_Of.mono _ _ _ _ _ _)
   | (with_reducible exact marquetryref22_Lay.mono _ _ _ _)
   | (with_reducible exact LeO.refl _)
   | (with_reducible exact LeO.none _)
   | (with_reducible refine LeO.ite ?_ ?_)
   | (with_reducible refine LeO.bind ?_ (fun _ => ?_))
   | exact ih0 _ _ _ _ _ _
   | exact ih1 _ _ _ _ _ _ _
   | exact marquetryref09_Check.mono _ _ _
   | exact marquetryref09_Of.mono _ _ _ _ _ _
   | exact marquetryref22_Lay.mono _ _ _ _
   | exact LeO.none _
   | refine LeO.ite ?_ ?_
   | refine LeO.bind ?_ (fun _ => ?_)
  ·intro y0 y1 y2 y3 y4 y5 y6
   unfold marquetryref22_Read.j0
   repeat' first
   | (with_reducible exact ih0 _ _ _ _ _ _)
   | (with_reducible exact ih1 _ _ _ _ _ _ _)
   | (with_reducible exact marquetryref09_Check.mono _ _ _)
   | (with_reducible exact marquetryref09_Of.mono _ _ _ _ _ _)
   | (with_reducible exact marquetryref22_Lay.mono _ _ _ _)
   | (with_reducible exact LeO.refl _)
   | (with_reducible exact LeO.none _)
   | (with_reducible refine LeO.ite ?_ ?_)
   | (with_reducible refine LeO.bind ?_ (fun _ => ?_))
   | exact ih0 _ _ _ _ _ _
   | exact ih1 _ _ _ _ _ _ _
   | exact marquetryref09_Check.mono _ _ _
   | exact marquetryref09_Of.mono _ _ _ _ _ _
   | exact marquetryref22_Lay.mono _ _ _ _
   | exact LeO.none _
   | refine LeO.ite ?_ ?_
   | refine LeO.bind ?_ (fun _ => ?_)
theorem marquetryref22_Read.mono : ∀ a0 a1 a2 k, LeO (marquetryref22_Read.f k a0 a1 a2) (marquetryref22_Read.f (k + 1) a0 a1 a2) := by
 intro a0 a1 a2 k
 obtain ⟨ih0, ih1⟩ := marquetryref22_Read.mono_l k
 unfold marquetryref22_Read.f
 repeat' first
   | (with_reducible exact ih0 _ _ _ _ _ _)
   | (with_reducible exact ih1 _ _ _ _ _ _ _)
   | (with_reducible exact marquetryref09_Check.mono _ _ _)
   | (with_reducible exact marquetryref09_Of.mono _ _ _ _ _ _)
   | (with_reducible exact marquetryref22_Lay.mono _ _ _ _)
   | (with_reducible exact LeO.refl _)
   | (with_reducible exact LeO.none _)
   | (with_reducible refine LeO.ite ?_ ?_)
   | (with_reducible refine LeO.bind ?_ (fun _ => ?_))
   | exact ih0 _ _ _ _ _ _
   | exact ih1 _ _ _ _ _ _ _
   | exact marquetryref09_Check.mono _ _ _
   | exact marquetryref09_Of.mono _ _ _ _ _ _
   | exact marquetryref22_Lay.mono _ _ _ _
   | exact LeO.none _
   | refine LeO.ite ?_ ?_
   | refine LeO.bind ?_ (fun _ => ?_)
set_option maxHeartbeats 8000000 in
set_option maxRecDepth 100000 in
theorem marquetryref22_Read.calls (k : Nat) (a0_0 : Int) (a0_1 : Int) (a1 : ByteArray) (r1 : Int) (r2 : Int) (r3 : ByteArray) (r4 : Int) (w : World) (h : marquetryref22_Read.f k a0_0 a0_1 a1 = some (r1, r2, r3, r4)) :
  Calls Try.prog 19 #[.agg #[.int .i64 a0_0, .int .i64 a0_1], .string a1] w fun e w' => e = .returned (.tuple #[.agg #[.int .i64 r1, .int .i64 r2, .string r3], .int .i64 r4]) ∧ Below w.heap.size w w' := by
 have hu24 := Try.underlying24
 have hu29 := Try.underlying29
 have HB := Aside0.mk (Below.refl w.heap.size w)
 have H : ((marquetryref09_Check.f k a0_0 a0_1).bind fun t143 => (if t143 = true then (if a0_0 = 6 then (marquetryref22_Read.j0 k a1 (a0_0 == 6) a0_0 a0_1 a0_0 0 (⟨#[]⟩ : ByteArray)) else (marquetryref22_Read.j0 k a1 (a0_0 == 7) a0_0 a0_1 a0_0 0 (⟨#[]⟩ : ByteArray))) else (some (0, 0, (⟨#[]⟩ : ByteArray), 2)))) = some (r1, r2, r3, r4) := h
 clear h
 replace H := Option.bind_eq_some_iff.mp H
 obtain ⟨t143, A30, H⟩ := H
 replace H : (if t143 = true then (if a0_0 = 6 then (marquetryref22_Read.j0 k a1 (a0_0 == 6) a0_0 a0_1 a0_0 0 (⟨#[]⟩ : ByteArray)) else (marquetryref22_Read.j0 k a1 (a0_0 == 7) a0_0 a0_1 a0_0 0 (⟨#[]⟩ : ByteArray))) else (some (0, 0, (⟨#[]⟩ : ByteArray), 2))) = some (r1, r2, r3, r4) := H
 have A3 := Aside0.mk A30
 clear A30
 by_cases c4 : t143 = true
 ·subst c4
  have H1 : (if a0_0 = 6 then (marquetryref22_Read.j0 k a1 (a0_0 == 6) a0_0 a0_1 a0_0 0 (⟨#[]⟩ : ByteArray)) else (marquetryref22_Read.j0 k a1 (a0_0 == 7) a0_0 a0_1 a0_0 0 (⟨#[]⟩ : ByteArray))) = some (r1, r2, r3, r4) := by rw [if_pos rfl] at H; exact H
  clear H
  have H := H1
  clear H1
  have HC5 := Aside0.mk H
  clear H
  go_enter Try.func19, Try.ntmps19
  go_upto_block 0 with (first | ((with_reducible refine gate_dst (N := 2) rfl ?_); refine box_event ?hg (N := 2) ?hd (cs := #[.int .i64 a0_0, .int .i64 a0_1]) (t := 24) ?hr ?_; (case hd => rfl); (case hg => rfl); (case hr => first | (go_simp; done) | (go_simp; rfl)); intro gb141 hg w6 hbox hb; have n0_ := Aside0.mk (below_step (by repeat (first | (with_reducible first | exact HB.out | apply below_alloc | apply pw_below_drewN | apply below_drew1) | exact HB.out)) hb); have n1_ := Aside0.mk (hbox); have n2_ := Aside0.mk ((by rw [hg]; exact (below_size (by repeat (first | (with_reducible first | exact HB.out | apply below_alloc | apply pw_below_drewN | apply below_drew1) | exact HB.out))) : w.heap.size ≤ gb141)); have n3_ := Aside0.mk ((by rw [hg]; exact (below_size (by repeat (first | (with_reducible first | exact HB.out | apply below_alloc | apply pw_below_drewN | apply below_drew1) | exact HB.out))) : w.heap.size ≤ gb141)); clear HB; have HB := n0_; have BK141 := n1_; have GW141 := n2_; have GE141 := n3_; clear n0_ n1_ n2_ n3_; clear hb hbox hg) | ((with_reducible refine gate_dst (N := 4) rfl ?_); refine box_event ?hg (N := 4) ?hd (cs := #[.int .i64 0, .int .i64 0, .string (⟨#[]⟩ : ByteArray)]) (t := 29) ?hr ?_; (case hd => rfl); (case hg => rfl); (case hr => first | (go_simp; done) | (go_simp; rfl)); intro gb142 hg w7 hbox hb; have n0_ := Aside0.mk (blk_below (g := gb141) (o := .cells #[.int .i64 a0_0, .int .i64 a0_1] 24 (0, 0)) (by (with_reducible repeat (first | refine blk_drewN ?_ _ | refine blk_drew ?_ | refine blk_alloc ?_ _)); exact BK141.out) hb); have n1_ := Aside0.mk (below_step (by repeat (first | (with_reducible first | exact HB.out | apply below_alloc | apply pw_below_drewN | apply below_drew1 | refine below_set ?_ GE141.out) | exact HB.out)) hb); have n2_ := Aside0.mk (hbox); have n3_ := Aside0.mk ((by rw [hg]; exact (below_size (by repeat (first | (with_reducible first | exact HB.out | apply below_alloc | apply pw_below_drewN | apply below_drew1 | refine below_set ?_ GE141.out) | exact HB.out))) : w.heap.size ≤ gb142)); have n4_ := Aside0.mk ((by rw [hg]; exact (below_size (by repeat (first | (with_reducible first | exact HB.out | apply below_alloc | apply pw_below_drewN | apply below_drew1 | refine below_set ?_ GE141.out) | exact HB.out))) : w.heap.size ≤ gb142)); have n5_ := Aside0.mk ((by rw [hg]; exact Nat.ne_of_lt (blk_lt (g := gb141) (o := .cells #[.int .i64 a0_0, .int .i64 a0_1] 24 (0, 0)) (by (with_reducible repeat (first | refine blk_drewN ?_ _ | refine blk_drew ?_ | refine blk_alloc ?_ _)); exact BK141.out)) : gb141 ≠ gb142)); have n6_ := Aside0.mk ((by rw [hg]; exact Nat.ne_of_gt (blk_lt (g := gb141) (o := .cells #[.int .i64 a0_0, .int .i64 a0_1] 24 (0, 0)) (by (with_reducible repeat (first | refine blk_drewN ?_ _ | refine blk_drew ?_ | refine blk_alloc ?_ _)); exact BK141.out)) : gb142 ≠ gb141)); clear BK141; clear HB; have BK141 := n0_; have HB := n1_; have BK142 := n2_; have GW142 := n3_; have GE142 := n4_; have NB141_142 := n5_; have NB142_141 := n6_; clear n0_ n1_ n2_ n3_ n4_ n5_ n6_; clear hb hbox hg; have hnb8 := NB141_142.out; have hnc8 := NB142_141.out; have hcz9_0 : w7.cell? ⟨gb141, 0, none⟩ = some (.int .i64 a0_0) := (blk_cell BK141.out 0).trans rfl; have hcz9_1 : w7.cell? ⟨gb141, 1, none⟩ = some (.int .i64 a0_1) := (blk_cell BK141.out 1).trans rfl; have hfz9_0 := blk_frozen BK141.out 0; have hfz9_1 := blk_frozen BK141.out 1) | ((with_reducible refine gate_callee (f := 40) rfl ?_); refine goesL_ (some 8) rfl rfl Try.func40 (by kernel_rfl) rfl #[.agg #[.int .i64 a0_0, .int .i64 a0_1]] rfl (by (try simp only [List.map_toArray, List.map_cons, List.map_nil]); first | done | rfl | (simp only [List.length_drop, List.length_take]; rfl)) ?_; (with_reducible refine (marquetryref09_Check.calls k a0_0 a0_1 true _ A3.out).mono ?_); rintro e w10 ⟨rfl, hb⟩; refine ⟨_, rfl, ?_⟩; have n0_ := Aside0.mk (blk_below (g := gb141) (o := .cells #[.int .i64 a0_0, .int .i64 a0_1] 24 (0, 0)) (by (with_reducible repeat (first | refine blk_drewN ?_ _ | refine blk_drew ?_ | refine blk_alloc ?_ _)); exact BK141.out) hb); have n1_ := Aside0.mk (blk_below (g := gb142) (o := .cells #[.int .i64 0, .int .i64 0, .string (⟨#[]⟩ : ByteArray)] 29 (0, 0)) (by (with_reducible repeat (first | refine blk_drewN ?_ _ | refine blk_drew ?_ | refine blk_alloc ?_ _)); exact BK142.out) hb); have n2_ := Aside0.mk (below_step (by repeat (first | (with_reducible first | exact HB.out | apply below_alloc | apply pw_below_drewN | apply below_drew1 | refine below_set ?_ GE141.out | refine below_set ?_ GE142.out) | exact HB.out)) hb); clear BK141; clear BK142; clear HB; have BK141 := n0_; have BK142 := n1_; have HB := n2_; clear n0_ n1_ n2_; (try clear hb); (try clear hb2); (try clear hk); (try clear hi); have hcz11_0 : w10.cell? ⟨gb141, 0, none⟩ = some (.int .i64 a0_0) := (blk_cell BK141.out 0).trans rfl; have hcz11_1 : w10.cell? ⟨gb141, 1, none⟩ = some (.int .i64 a0_1) := (blk_cell BK141.out 1).trans rfl; have hfz11_0 := blk_frozen BK141.out 0; have hfz11_1 := blk_frozen BK141.out 1) | ((with_reducible refine gate_dst (N := 6) rfl ?_); refine box_event ?hg (N := 6) ?hd (cs := #[.int .i64 0, .int .i64 0, .string (⟨#[]⟩ : ByteArray)]) (t := 29) ?hr ?_; (case hd => rfl); (case hg => rfl); (case hr => first | (go_simp; done) | (go_simp; rfl)); intro gb144 hg w12 hbox hb; have n0_ := Aside0.mk (blk_below (g := gb141) (o := .cells #[.int .i64 a0_0, .int .i64 a0_1] 24 (0, 0)) (by (with_reducible repeat (first | refine blk_drewN ?_ _ | refine blk_drew ?_ | refine blk_alloc ?_ _)); exact BK141.out) hb); have n1_ := Aside0.mk (blk_below (g := gb142) (o := .cells #[.int .i64 0, .int .i64 0, .string (⟨#[]⟩ : ByteArray)] 29 (0, 0)) (by (with_reducible repeat (first | refine blk_drewN ?_ _ | refine blk_drew ?_ | refine blk_alloc ?_ _)); exact BK142.out) hb); have n2_ := Aside0.mk (below_step (by repeat (first | (with_reducible first | exact HB.out | apply below_alloc | apply pw_below_drewN | apply below_drew1 | refine below_set ?_ GE141.out | refine below_set ?_ GE142.out) | exact HB.out)) hb); have n3_ := Aside0.mk (hbox); have n4_ := Aside0.mk ((by rw [hg]; exact (below_size (by repeat (first | (with_reducible first | exact HB.out | apply below_alloc | apply pw_below_drewN | apply below_drew1 | refine below_set ?_ GE141.out | refine below_set ?_ GE142.out) | exact HB.out))) : w.heap.size ≤ gb144)); have n5_ := Aside0.mk ((by rw [hg]; exact (below_size (by repeat (first | (with_reducible first | exact HB.out | apply below_alloc | apply pw_below_drewN | apply below_drew1 | refine below_set ?_ GE141.out | refine below_set ?_ GE142.out) | exact HB.out))) : w.heap.size ≤ gb144)); have n6_ := Aside0.mk ((by rw [hg]; exact Nat.ne_of_lt (blk_lt (g := gb141) (o := .cells #[.int .i64 a0_0, .int .i64 a0_1] 24 (0, 0)) (by (with_reducible repeat (first | refine blk_drewN ?_ _ | refine blk_drew ?_ | refine blk_alloc ?_ _)); exact BK141.out)) : gb141 ≠ gb144)); have n7_ := Aside0.mk ((by rw [hg]; exact Nat.ne_of_gt (blk_lt (g := gb141) (o := .cells #[.int .i64 a0_0, .int .i64 a0_1] 24 (0, 0)) (by (with_reducible repeat (first | refine blk_drewN ?_ _ | refine blk_drew ?_ | refine blk_alloc ?_ _)); exact BK141.out)) : gb144 ≠ gb141)); have n8_ := Aside0.mk ((by rw [hg]; exact Nat.ne_of_lt (blk_lt (g := gb142) (o := .cells #[.int .i64 0, .int .i64 0, .string (⟨#[]⟩ : ByteArray)] 29 (0, 0)) (by (with_reducible repeat (first | refine blk_drewN ?_ _ | refine blk_drew ?_ | refine blk_alloc ?_ _)); exact BK142.out)) : gb142 ≠ gb144)); have n9_ := Aside0.mk ((by rw [hg]; exact Nat.ne_of_gt (blk_lt (g := gb142) (o := .cells #[.int .i64 0, .int .i64 0, .string (⟨#[]⟩ : ByteArray)] 29 (0, 0)) (by (with_reducible repeat (first | refine blk_drewN ?_ _ | refine blk_drew ?_ | refine blk_alloc ?_ _)); exact BK142.out)) : gb144 ≠ gb142)); clear BK141; clear BK142; clear HB; have BK141 := n0_; have BK142 := n1_; have HB := n2_; have BK144 := n3_; have GW144 := n4_; have GE144 := n5_; have NB141_144 := n6_; have NB144_141 := n7_; have NB142_144 := n8_; have NB144_142 := n9_; clear n0_ n1_ n2_ n3_ n4_ n5_ n6_ n7_ n8_ n9_; clear hb hbox hg; have hnb13 := NB144_141.out; have hnc13 := NB141_144.out; have hnb14 := NB144_142.out; have hnc14 := NB142_144.out; have hcz15_0 : w12.cell? ⟨gb144, 0, none⟩ = some (.int .i64 0) := (blk_cell BK144.out 0).trans rfl; have hcz15_1 : w12.cell? ⟨gb144, 1, none⟩ = some (.int .i64 0) := (blk_cell BK144.out 1).trans rfl; have hcz15_2 : w12.cell? ⟨gb144, 2, none⟩ = some (.string (⟨#[]⟩ : ByteArray)) := (blk_cell BK144.out 2).trans rfl; have hfz15_0 := blk_frozen BK144.out 0; have hfz15_1 := blk_frozen BK144.out 1; have hfz15_2 := blk_frozen BK144.out 2; have hcz16_0 : w12.cell? ⟨gb141, 0, none⟩ = some (.int .i64 a0_0) := (blk_cell BK141.out 0).trans rfl; have hcz16_1 : w12.cell? ⟨gb141, 1, none⟩ = some (.int .i64 a0_1) := (blk_cell BK141.out 1).trans rfl; have hfz16_0 := blk_frozen BK141.out 0; have hfz16_1 := blk_frozen BK141.out 1))
  (try simp only [Act.put, List.setIfInBounds_toArray, List.set_cons_zero, List.set_cons_succ])
  go_cut [] (fun wc => ∃ (kq : Nat) (x143000_4 : Int) (x143001_4 : Int) (x143002_4 : ByteArray) (x145001_4 : Int) (x145002_4 : ByteArray), Aside0 (marquetryref22_Read.j1 kq a1 a0_0 a0_1 a0_0 x145001_4 x145002_4 = some (r1, r2, r3, r4)) ∧ Aside0 (kq ≤ k) ∧ Aside0 (wc.heap[gb141]? = some (.cells #[.int .i64 a0_0, .int .i64 a0_1] 24 (0, 0))) ∧ Aside0 (wc.heap[gb142]? = some (.cells #[.int .i64 x143000_4, .int .i64 x143001_4, .string x143002_4] 29 (0, 0))) ∧ Aside0 (wc.heap[gb144]? = some (.cells #[.int .i64 a0_0, .int .i64 x145001_4, .string x145002_4] 29 (0, 0))) ∧ Aside0 (Below w.heap.size w wc))
  case first =>
   have H := HC5.out
   clear HC5
   have HC17 := Aside0.mk H
   clear H
   go_upto_if 35 with (fail)
   go_cut [35] (fun v35 wc => ∃ (kq : Nat) (x35_16 : Bool), v35 = .bool x35_16 ∧ Aside0 (marquetryref22_Read.j0 kq a1 x35_16 a0_0 a0_1 a0_0 0 (⟨#[]⟩ : ByteArray) = some (r1, r2, r3, r4)) ∧ Aside0 (kq ≤ k) ∧ Aside0 (wc.heap[gb141]? = some (.cells #[.int .i64 a0_0, .int .i64 a0_1] 24 (0, 0))) ∧ Aside0 (wc.heap[gb142]? = some (.cells #[.int .i64 0, .int .i64 0, .string (⟨#[]⟩ : ByteArray)] 29 (0, 0))) ∧ Aside0 (wc.heap[gb144]? = some (.cells #[.int .i64 a0_0, .int .i64 0, .string (⟨#[]⟩ : ByteArray)] 29 (0, 0))) ∧ Aside0 (Below w.heap.size w wc))
   case first =>
    have H := HC17.out
    clear HC17
    by_cases c18 : a0_0 = 6
    ·rw [if_pos c18] at H
     have c18b0 : (a0_0 == 6) = true := beq_iff_eq.mpr c18
     have c18b1 : (a0_0 != 6) = false := bne_eq_false_iff_eq.mpr c18
     clear c18
     (first | rw [c18b0] | (simp only [i64_w, i32_w]; rw [c18b0]) | skip)
     have H' := Aside0.mk H
     clear H
     go_wp2
     go_meet
     case rel => exact ⟨_, ((a0_0 == 6)), (by first | rfl | (simp; done) | (simp [*]; done)), H', ⟨by first | omega | exact Nat.le_refl _⟩, ⟨by (with_reducible repeat (first | refine blk_drewN ?_ _ | refine blk_drew ?_ | refine blk_alloc ?_ _)); refine blk_far ?_ NB141_144.out _; (with_reducible repeat (first | refine blk_drewN ?_ _ | refine blk_drew ?_ | refine blk_alloc ?_ _)); refine blk_far ?_ NB141_144.out _; (with_reducible repeat (first | refine blk_drewN ?_ _ | refine blk_drew ?_ | refine blk_alloc ?_ _)); refine blk_far ?_ NB141_144.out _; (with_reducible repeat (first | refine blk_drewN ?_ _ | refine blk_drew ?_ | refine blk_alloc ?_ _)); exact BK141.out⟩, ⟨by (with_reducible repeat (first | refine blk_drewN ?_ _ | refine blk_drew ?_ | refine blk_alloc ?_ _)); refine blk_far ?_ NB142_144.out _; (with_reducible repeat (first | refine blk_drewN ?_ _ | refine blk_drew ?_ | refine blk_alloc ?_ _)); refine blk_far ?_ NB142_144.out _; (with_reducible repeat (first | refine blk_drewN ?_ _ | refine blk_drew ?_ | refine blk_alloc ?_ _)); refine blk_far ?_ NB142_144.out _; (with_reducible repeat (first | refine blk_drewN ?_ _ | refine blk_drew ?_ | refine blk_alloc ?_ _)); exact BK142.out⟩, ⟨by (with_reducible repeat (first | refine blk_drewN ?_ _ | refine blk_drew ?_ | refine blk_alloc ?_ _)); refine blk_put (cs := #[.int .i64 a0_0, .int .i64 0, .string (⟨#[]⟩ : ByteArray)]) ?_ 2 _ rfl; (with_reducible repeat (first | refine blk_drewN ?_ _ | refine blk_drew ?_ | refine blk_alloc ?_ _)); refine blk_put (cs := #[.int .i64 a0_0, .int .i64 0, .string (⟨#[]⟩ : ByteArray)]) ?_ 1 _ rfl; (with_reducible repeat (first | refine blk_drewN ?_ _ | refine blk_drew ?_ | refine blk_alloc ?_ _)); refine blk_put (cs := #[.int .i64 0, .int .i64 0, .string (⟨#[]⟩ : ByteArray)]) ?_ 0 _ rfl; (with_reducible repeat (first | refine blk_drewN ?_ _ | refine blk_drew ?_ | refine blk_alloc ?_ _)); exact BK144.out⟩, ⟨by repeat (first | (with_reducible first | exact HB.out | apply below_alloc | apply pw_below_drewN | apply below_drew1 | refine below_set ?_ GE141.out | refine below_set ?_ GE142.out | refine below_set ?_ GE144.out) | exact HB.out)⟩⟩
    ·rw [if_neg c18] at H
     have c18b0 : (a0_0 == 6) = false := beq_eq_false_iff_ne.mpr c18
     have c18b1 : (a0_0 != 6) = true := bne_iff_ne.mpr c18
     (first | rw [c18b0] | (simp only [i64_w, i32_w]; rw [c18b0]) | skip)
     have H' := Aside0.mk H
     clear H
     go_wp2
     go_meet
     case rel => exact ⟨_, ((a0_0 == 7)), (by first | rfl | (simp; done) | (simp [*]; done)), H', ⟨by first | omega | exact Nat.le_refl _⟩, ⟨by (with_reducible repeat (first | refine blk_drewN ?_ _ | refine blk_drew ?_ | refine blk_alloc ?_ _)); refine blk_far ?_ NB141_144.out _; (with_reducible repeat (first | refine blk_drewN ?_ _ | refine blk_drew ?_ | refine blk_alloc ?_ _)); refine blk_far ?_ NB141_144.out _; (with_reducible repeat (first | refine blk_drewN ?_ _ | refine blk_drew ?_ | refine blk_alloc ?_ _)); refine blk_far ?_ NB141_144.out _; (with_reducible repeat (first | refine blk_drewN ?_ _ | refine blk_drew ?_ | refine blk_alloc ?_ _)); exact BK141.out⟩, ⟨by (with_reducible repeat (first | refine blk_drewN ?_ _ | refine blk_drew ?_ | refine blk_alloc ?_ _)); refine blk_far ?_ NB142_144.out _; (with_reducible repeat (first | refine blk_drewN ?_ _ | refine blk_drew ?_ | refine blk_alloc ?_ _)); refine blk_far ?_ NB142_144.out _; (with_reducible repeat (first | refine blk_drewN ?_ _ | refine blk_drew ?_ | refine blk_alloc ?_ _)); refine blk_far ?_ NB142_144.out _; (with_reducible repeat (first | refine blk_drewN ?_ _ | refine blk_drew ?_ | refine blk_alloc ?_ _)); exact BK142.out⟩, ⟨by (with_reducible repeat (first | refine blk_drewN ?_ _ | refine blk_drew ?_ | refine blk_alloc ?_ _)); refine blk_put (cs := #[.int .i64 a0_0, .int .i64 0, .string (⟨#[]⟩ : ByteArray)]) ?_ 2 _ rfl; (with_reducible repeat (first | refine blk_drewN ?_ _ | refine blk_drew ?_ | refine blk_alloc ?_ _)); refine blk_put (cs := #[.int .i64 a0_0, .int .i64 0, .string (⟨#[]⟩ : ByteArray)]) ?_ 1 _ rfl; (with_reducible repeat (first | refine blk_drewN ?_ _ | refine blk_drew ?_ | refine blk_alloc ?_ _)); refine blk_put (cs := #[.int .i64 0, .int .i64 0, .string (⟨#[]⟩ : ByteArray)]) ?_ 0 _ rfl; (with_reducible repeat (first | refine blk_drewN ?_ _ | refine blk_drew ?_ | refine blk_alloc ?_ _)); exact BK144.out⟩, ⟨by repeat (first | (with_reducible first | exact HB.out | apply below_alloc | apply pw_below_drewN | apply below_drew1 | refine below_set ?_ GE141.out | refine below_set ?_ GE142.out | refine below_set ?_ GE144.out) | exact HB.out)⟩⟩
   case rest =>
    clear HC17
    try clear c1
    try clear p2
    try clear c4
    try clear c8
    try clear c13
    try clear c14
    try clear c18
    try clear c18b0
    try clear c18b1
    try clear hcz11_0
    try clear hcz11_1
    try clear hcz15_0
    try clear hcz15_1
    try clear hcz15_2
    try clear hcz16_0
    try clear hcz16_1
    try clear hcz9_0
    try clear hcz9_1
    try clear hfz11_0
    try clear hfz11_1
    try clear hfz15_0
    try clear hfz15_1
    try clear hfz15_2
    try clear hfz16_0
    try clear hfz16_1
    try clear hfz9_0
    try clear hfz9_1
    obtain ⟨kq, x35_16, rfl, HA, HJ16, BK141, BK142, BK144, HB⟩ := hcut
    cases kq with
    | zero => exact absurd HA.out (by simp [marquetryref22_Read.j0])
    | succ kj16 =>
     have H := HA.out
     clear HA
     simp only [marquetryref22_Read.j0] at H
     by_cases c19 : x35_16 = true
     ·subst c19
      have H1 : (marquetryref22_Read.j1 kj16 a1 a0_0 a0_1 a0_0 0 a1) = some (r1, r2, r3, r4) := by rw [if_pos rfl] at H; exact H
      clear H
      have H := H1
      clear H1
      have H' := Aside0.mk H
      clear H
      have hnb20 := NB144_141.out
      have hnc20 := NB141_144.out
      have hnb21 := NB144_142.out
      have hnc21 := NB142_144.out
      have hcz22_0 : wc.cell? ⟨gb144, 0, none⟩ = some (.int .i64 a0_0) := (blk_cell BK144.out 0).trans rfl
      have hcz22_1 : wc.cell? ⟨gb144, 1, none⟩ = some (.int .i64 0) := (blk_cell BK144.out 1).trans rfl
      have hcz22_2 : wc.cell? ⟨gb144, 2, none⟩ = some (.string (⟨#[]⟩ : ByteArray)) := (blk_cell BK144.out 2).trans rfl
      have hfz22_0 := blk_frozen BK144.out 0
      have hfz22_1 := blk_frozen BK144.out 1
      have hfz22_2 := blk_frozen BK144.out 2
      go_wp2
      go_meet
      case rel => exact ⟨_, (0), (0), ((⟨#[]⟩ : ByteArray)), (0), (a1), H', ⟨by have := HJ16.out; first | omega | exact Nat.le_refl _⟩, ⟨by (with_reducible repeat (first | refine blk_drewN ?_ _ | refine blk_drew ?_ | refine blk_alloc ?_ _)); refine blk_far ?_ NB141_144.out _; (with_reducible repeat (first | refine blk_drewN ?_ _ | refine blk_drew ?_ | refine blk_alloc ?_ _)); exact BK141.out⟩, ⟨by (with_reducible repeat (first | refine blk_drewN ?_ _ | refine blk_drew ?_ | refine blk_alloc ?_ _)); refine blk_far ?_ NB142_144.out _; (with_reducible repeat (first | refine blk_drewN ?_ _ | refine blk_drew ?_ | refine blk_alloc ?_ _)); exact BK142.out⟩, ⟨by (with_reducible repeat (first | refine blk_drewN ?_ _ | refine blk_drew ?_ | refine blk_alloc ?_ _)); refine blk_put (cs := #[.int .i64 a0_0, .int .i64 0, .string (⟨#[]⟩ : ByteArray)]) ?_ 2 _ rfl; (with_reducible repeat (first | refine blk_drewN ?_ _ | refine blk_drew ?_ | refine blk_alloc ?_ _)); exact BK144.out⟩, ⟨by repeat (first | (with_reducible first | exact HB.out | apply below_alloc | apply pw_below_drewN | apply below_drew1 | refine below_set ?_ GE141.out | refine below_set ?_ GE142.out | refine below_set ?_ GE144.out) | exact HB.out)⟩⟩
     ·replace c19 := Bool.eq_false_iff.mpr c19
      subst c19
      have H1 : (if (a1.size : Int) > 8 then (some (0, 0, (⟨#[]⟩ : ByteArray), 320)) else ((marquetryref22_number.f a1).bind fun t145 => (if a0_0 = 1 then (if t145 > 2147483647 then (marquetryref22_Read.j1 kj16 a1 a0_0 a0_1 a0_0 (wrap64 (t145 - 4294967296)) (⟨#[]⟩ : ByteArray)) else (marquetryref22_Read.j1 kj16 a1 a0_0 a0_1 a0_0 t145 (⟨#[]⟩ : ByteArray))) else (marquetryref22_Read.j1 kj16 a1 a0_0 a0_1 a0_0 t145 (⟨#[]⟩ : ByteArray))))) = some (r1, r2, r3, r4) := by rw [if_neg (show ¬ (false = true) by decide)] at H; exact H
      clear H
      have H := H1
      clear H1
      by_cases c23 : (a1.size : Int) > 8
      ·rw [if_pos c23] at H
       have c23b0 : decide (8 < (a1.size : Int)) = true := decide_eq_true c23
       have c23b1 : decide (8 < a1.size) = true := decide_eq_true (by omega)
       clear c23
       simp only [Option.some.injEq, Prod.mk.injEq] at H
       obtain ⟨rfl, rfl, rfl, rfl⟩ := H
       have hnb24 := NB142_141.out
       have hnc24 := NB141_142.out
       have hnb25 := NB142_144.out
       have hnc25 := NB144_142.out
       have hcz26_0 : wc.cell? ⟨gb142, 0, none⟩ = some (.int .i64 0) := (blk_cell BK142.out 0).trans rfl
       have hcz26_1 : wc.cell? ⟨gb142, 1, none⟩ = some (.int .i64 0) := (blk_cell BK142.out 1).trans rfl
       have hcz26_2 : wc.cell? ⟨gb142, 2, none⟩ = some (.string (⟨#[]⟩ : ByteArray)) := (blk_cell BK142.out 2).trans rfl
       have hfz26_0 := blk_frozen BK142.out 0
       have hfz26_1 := blk_frozen BK142.out 1
       have hfz26_2 := blk_frozen BK142.out 2
       go_wp2
       refine bodyPost_ret (results_ct rfl _ _ gb142 29 #[.int .i64 0, .int .i64 0, .string (⟨#[]⟩ : ByteArray)] (0, 0) _ rfl (by (with_reducible repeat (first | refine blk_drewN ?_ _ | refine blk_drew ?_ | refine blk_alloc ?_ _)); refine blk_put (cs := #[.int .i64 0, .int .i64 0, .string (⟨#[]⟩ : ByteArray)]) ?_ 2 _ rfl; (with_reducible repeat (first | refine blk_drewN ?_ _ | refine blk_drew ?_ | refine blk_alloc ?_ _)); refine blk_put (cs := #[.int .i64 0, .int .i64 0, .string (⟨#[]⟩ : ByteArray)]) ?_ 1 _ rfl; (with_reducible repeat (first | refine blk_drewN ?_ _ | refine blk_drew ?_ | refine blk_alloc ?_ _)); refine blk_put (cs := #[.int .i64 0, .int .i64 0, .string (⟨#[]⟩ : ByteArray)]) ?_ 0 _ rfl; (with_reducible repeat (first | refine blk_drewN ?_ _ | refine blk_drew ?_ | refine blk_alloc ?_ _)); exact BK142.out) Try.underlying29 rfl (by kernel_rfl)) rfl ?_
       exact ⟨by first | rfl | (simp [errW_none, errW_some] <;> rfl) | (simp [*, errW_none, errW_some] <;> rfl), by repeat (first | (with_reducible first | exact HB.out | apply below_alloc | apply pw_below_drewN | apply below_drew1 | refine below_set ?_ GE141.out | refine below_set ?_ GE142.out | refine below_set ?_ GE144.out) | exact HB.out)⟩
      ·rw [if_neg c23] at H
       have c23b0 : decide (8 < (a1.size : Int)) = false := decide_eq_false c23
       have c23b1 : decide (8 < a1.size) = false := decide_eq_false (by omega)
       clear c23
       replace H := Option.bind_eq_some_iff.mp H
       obtain ⟨t145, A270, H⟩ := H
       replace H : (if a0_0 = 1 then (if t145 > 2147483647 then (marquetryref22_Read.j1 kj16 a1 a0_0 a0_1 a0_0 (wrap64 (t145 - 4294967296)) (⟨#[]⟩ : ByteArray)) else (marquetryref22_Read.j1 kj16 a1 a0_0 a0_1 a0_0 t145 (⟨#[]⟩ : ByteArray))) else (marquetryref22_Read.j1 kj16 a1 a0_0 a0_1 a0_0 t145 (⟨#[]⟩ : ByteArray))) = some (r1, r2, r3, r4) := H
       have A27 := Aside0.mk A270
       clear A270
       by_cases c28 : a0_0 = 1
       ·rw [if_pos c28] at H
        have c28b0 : (a0_0 == 1) = true := beq_iff_eq.mpr c28
        have c28b1 : (a0_0 != 1) = false := bne_eq_false_iff_eq.mpr c28
        clear c28
        by_cases c29 : t145 > 2147483647
        ·rw [if_pos c29] at H
         have c29b0 : decide (2147483647 < t145) = true := decide_eq_true c29
         clear c29
         have H' := Aside0.mk H
         clear H
         go_wp2_with (first | ((with_reducible refine gate_callee (f := 47) rfl ?_); refine goesL_ (some 21) rfl rfl Try.func47 (by kernel_rfl) rfl #[.string a1] rfl (by (try simp only [List.map_toArray, List.map_cons, List.map_nil]); first | done | rfl | (simp only [List.length_drop, List.length_take]; rfl)) ?_; (with_reducible refine (marquetryref22_number.calls a1 t145 _ A27.out).mono ?_); rintro e w30 ⟨rfl, hb⟩; refine ⟨_, rfl, ?_⟩; have n0_ := Aside0.mk (blk_below (g := gb141) (o := .cells #[.int .i64 a0_0, .int .i64 a0_1] 24 (0, 0)) (by (with_reducible repeat (first | refine blk_drewN ?_ _ | refine blk_drew ?_ | refine blk_alloc ?_ _)); exact BK141.out) hb); have n1_ := Aside0.mk (blk_below (g := gb142) (o := .cells #[.int .i64 0, .int .i64 0, .string (⟨#[]⟩ : ByteArray)] 29 (0, 0)) (by (with_reducible repeat (first | refine blk_drewN ?_ _ | refine blk_drew ?_ | refine blk_alloc ?_ _)); exact BK142.out) hb); have n2_ := Aside0.mk (blk_below (g := gb144) (o := .cells #[.int .i64 a0_0, .int .i64 0, .string (⟨#[]⟩ : ByteArray)] 29 (0, 0)) (by (with_reducible repeat (first | refine blk_drewN ?_ _ | refine blk_drew ?_ | refine blk_alloc ?_ _)); exact BK144.out) hb); have n3_ := Aside0.mk (below_step (by repeat (first | (with_reducible first | exact HB.out | apply below_alloc | apply pw_below_drewN | apply below_drew1 | refine below_set ?_ GE141.out | refine below_set ?_ GE142.out | refine below_set ?_ GE144.out) | exact HB.out)) hb); clear BK141; clear BK142; clear BK144; clear HB; have BK141 := n0_; have BK142 := n1_; have BK144 := n2_; have HB := n3_; clear n0_ n1_ n2_ n3_; (try clear hb); (try clear hb2); (try clear hk); (try clear hi); have hnb31 := NB144_141.out; have hnc31 := NB141_144.out; have hnb32 := NB144_142.out; have hnc32 := NB142_144.out; have hcz33_0 : w30.cell? ⟨gb144, 0, none⟩ = some (.int .i64 a0_0) := (blk_cell BK144.out 0).trans rfl; have hcz33_1 : w30.cell? ⟨gb144, 1, none⟩ = some (.int .i64 0) := (blk_cell BK144.out 1).trans rfl; have hcz33_2 : w30.cell? ⟨gb144, 2, none⟩ = some (.string (⟨#[]⟩ : ByteArray)) := (blk_cell BK144.out 2).trans rfl; have hfz33_0 := blk_frozen BK144.out 0; have hfz33_1 := blk_frozen BK144.out 1; have hfz33_2 := blk_frozen BK144.out 2; have hnb34 := NB141_142.out; have hnc34 := NB142_141.out; have hcz35_0 : w30.cell? ⟨gb141, 0, none⟩ = some (.int .i64 a0_0) := (blk_cell BK141.out 0).trans rfl; have hcz35_1 : w30.cell? ⟨gb141, 1, none⟩ = some (.int .i64 a0_1) := (blk_cell BK141.out 1).trans rfl; have hfz35_0 := blk_frozen BK141.out 0; have hfz35_1 := blk_frozen BK141.out 1))
         go_meet
         case rel => exact ⟨_, (0), (0), ((⟨#[]⟩ : ByteArray)), (wrap64 (t145 - 4294967296)), ((⟨#[]⟩ : ByteArray)), H', ⟨by have := HJ16.out; first | omega | exact Nat.le_refl _⟩, ⟨by (with_reducible repeat (first | refine blk_drewN ?_ _ | refine blk_drew ?_ | refine blk_alloc ?_ _)); refine blk_far ?_ NB141_144.out _; (with_reducible repeat (first | refine blk_drewN ?_ _ | refine blk_drew ?_ | refine blk_alloc ?_ _)); refine blk_far ?_ NB141_144.out _; (with_reducible repeat (first | refine blk_drewN ?_ _ | refine blk_drew ?_ | refine blk_alloc ?_ _)); exact BK141.out⟩, ⟨by (with_reducible repeat (first | refine blk_drewN ?_ _ | refine blk_drew ?_ | refine blk_alloc ?_ _)); refine blk_far ?_ NB142_144.out _; (with_reducible repeat (first | refine blk_drewN ?_ _ | refine blk_drew ?_ | refine blk_alloc ?_ _)); refine blk_far ?_ NB142_144.out _; (with_reducible repeat (first | refine blk_drewN ?_ _ | refine blk_drew ?_ | refine blk_alloc ?_ _)); exact BK142.out⟩, ⟨by (with_reducible repeat (first | refine blk_drewN ?_ _ | refine blk_drew ?_ | refine blk_alloc ?_ _)); refine blk_put (cs := #[.int .i64 a0_0, .int .i64 t145, .string (⟨#[]⟩ : ByteArray)]) ?_ 1 _ rfl; (with_reducible repeat (first | refine blk_drewN ?_ _ | refine blk_drew ?_ | refine blk_alloc ?_ _)); refine blk_put (cs := #[.int .i64 a0_0, .int .i64 0, .string (⟨#[]⟩ : ByteArray)]) ?_ 1 _ rfl; (with_reducible repeat (first | refine blk_drewN ?_ _ | refine blk_drew ?_ | refine blk_alloc ?_ _)); exact BK144.out⟩, ⟨by repeat (first | (with_reducible first | exact HB.out | apply below_alloc | apply pw_below_drewN | apply below_drew1 | refine below_set ?_ GE141.out | refine below_set ?_ GE142.out | refine below_set ?_ GE144.out) | exact HB.out)⟩⟩
        ·rw [if_neg c29] at H
         have c29b0 : decide (2147483647 < t145) = false := decide_eq_false c29
         clear c29
         have H' := Aside0.mk H
         clear H
         go_wp2_with (first | ((with_reducible refine gate_callee (f := 47) rfl ?_); refine goesL_ (some 21) rfl rfl Try.func47 (by kernel_rfl) rfl #[.string a1] rfl (by (try simp only [List.map_toArray, List.map_cons, List.map_nil]); first | done | rfl | (simp only [List.length_drop, List.length_take]; rfl)) ?_; (with_reducible refine (marquetryref22_number.calls a1 t145 _ A27.out).mono ?_); rintro e w36 ⟨rfl, hb⟩; refine ⟨_, rfl, ?_⟩; have n0_ := Aside0.mk (blk_below (g := gb141) (o := .cells #[.int .i64 a0_0, .int .i64 a0_1] 24 (0, 0)) (by (with_reducible repeat (first | refine blk_drewN ?_ _ | refine blk_drew ?_ | refine blk_alloc ?_ _)); exact BK141.out) hb); have n1_ := Aside0.mk (blk_below (g := gb142) (o := .cells #[.int .i64 0, .int .i64 0, .string (⟨#[]⟩ : ByteArray)] 29 (0, 0)) (by (with_reducible repeat (first | refine blk_drewN ?_ _ | refine blk_drew ?_ | refine blk_alloc ?_ _)); exact BK142.out) hb); have n2_ := Aside0.mk (blk_below (g := gb144) (o := .cells #[.int .i64 a0_0, .int .i64 0, .string (⟨#[]⟩ : ByteArray)] 29 (0, 0)) (by (with_reducible repeat (first | refine blk_drewN ?_ _ | refine blk_drew ?_ | refine blk_alloc ?_ _)); exact BK144.out) hb); have n3_ := Aside0.mk (below_step (by repeat (first | (with_reducible first | exact HB.out | apply below_alloc | apply pw_below_drewN | apply below_drew1 | refine below_set ?_ GE141.out | refine below_set ?_ GE142.out | refine below_set ?_ GE144.out) | exact HB.out)) hb); clear BK141; clear BK142; clear BK144; clear HB; have BK141 := n0_; have BK142 := n1_; have BK144 := n2_; have HB := n3_; clear n0_ n1_ n2_ n3_; (try clear hb); (try clear hb2); (try clear hk); (try clear hi); have hnb37 := NB144_141.out; have hnc37 := NB141_144.out; have hnb38 := NB144_142.out; have hnc38 := NB142_144.out; have hcz39_0 : w36.cell? ⟨gb144, 0, none⟩ = some (.int .i64 a0_0) := (blk_cell BK144.out 0).trans rfl; have hcz39_1 : w36.cell? ⟨gb144, 1, none⟩ = some (.int .i64 0) := (blk_cell BK144.out 1).trans rfl; have hcz39_2 : w36.cell? ⟨gb144, 2, none⟩ = some (.string (⟨#[]⟩ : ByteArray)) := (blk_cell BK144.out 2).trans rfl; have hfz39_0 := blk_frozen BK144.out 0; have hfz39_1 := blk_frozen BK144.out 1; have hfz39_2 := blk_frozen BK144.out 2; have hnb40 := NB141_142.out; have hnc40 := NB142_141.out; have hcz41_0 : w36.cell? ⟨gb141, 0, none⟩ = some (.int .i64 a0_0) := (blk_cell BK141.out 0).trans rfl; have hcz41_1 : w36.cell? ⟨gb141, 1, none⟩ = some (.int .i64 a0_1) := (blk_cell BK141.out 1).trans rfl; have hfz41_0 := blk_frozen BK141.out 0; have hfz41_1 := blk_frozen BK141.out 1))
         go_meet
         case rel => exact ⟨_, (0), (0), ((⟨#[]⟩ : ByteArray)), (t145), ((⟨#[]⟩ : ByteArray)), H', ⟨by have := HJ16.out; first | omega | exact Nat.le_refl _⟩, ⟨by (with_reducible repeat (first | refine blk_drewN ?_ _ | refine blk_drew ?_ | refine blk_alloc ?_ _)); refine blk_far ?_ NB141_144.out _; (with_reducible repeat (first | refine blk_drewN ?_ _ | refine blk_drew ?_ | refine blk_alloc ?_ _)); exact BK141.out⟩, ⟨by (with_reducible repeat (first | refine blk_drewN ?_ _ | refine blk_drew ?_ | refine blk_alloc ?_ _)); refine blk_far ?_ NB142_144.out _; (with_reducible repeat (first | refine blk_drewN ?_ _ | refine blk_drew ?_ | refine blk_alloc ?_ _)); exact BK142.out⟩, ⟨by (with_reducible repeat (first | refine blk_drewN ?_ _ | refine blk_drew ?_ | refine blk_alloc ?_ _)); refine blk_put (cs := #[.int .i64 a0_0, .int .i64 0, .string (⟨#[]⟩ : ByteArray)]) ?_ 1 _ rfl; (with_reducible repeat (first | refine blk_drewN ?_ _ | refine blk_drew ?_ | refine blk_alloc ?_ _)); exact BK144.out⟩, ⟨by repeat (first | (with_reducible first | exact HB.out | apply below_alloc | apply pw_below_drewN | apply below_drew1 | refine below_set ?_ GE141.out | refine below_set ?_ GE142.out | refine below_set ?_ GE144.out) | exact HB.out)⟩⟩
       ·rw [if_neg c28] at H
        have c28b0 : (a0_0 == 1) = false := beq_eq_false_iff_ne.mpr c28
        have c28b1 : (a0_0 != 1) = true := bne_iff_ne.mpr c28
        have H' := Aside0.mk H
        clear H
        go_wp2_with (first | ((with_reducible refine gate_callee (f := 47) rfl ?_); refine goesL_ (some 21) rfl rfl Try.func47 (by kernel_rfl) rfl #[.string a1] rfl (by (try simp only [List.map_toArray, List.map_cons, List.map_nil]); first | done | rfl | (simp only [List.length_drop, List.length_take]; rfl)) ?_; (with_reducible refine (marquetryref22_number.calls a1 t145 _ A27.out).mono ?_); rintro e w42 ⟨rfl, hb⟩; refine ⟨_, rfl, ?_⟩; have n0_ := Aside0.mk (blk_below (g := gb141) (o := .cells #[.int .i64 a0_0, .int .i64 a0_1] 24 (0, 0)) (by (with_reducible repeat (first | refine blk_drewN ?_ _ | refine blk_drew ?_ | refine blk_alloc ?_ _)); exact BK141.out) hb); have n1_ := Aside0.mk (blk_below (g := gb142) (o := .cells #[.int .i64 0, .int .i64 0, .string (⟨#[]⟩ : ByteArray)] 29 (0, 0)) (by (with_reducible repeat (first | refine blk_drewN ?_ _ | refine blk_drew ?_ | refine blk_alloc ?_ _)); exact BK142.out) hb); have n2_ := Aside0.mk (blk_below (g := gb144) (o := .cells #[.int .i64 a0_0, .int .i64 0, .string (⟨#[]⟩ : ByteArray)] 29 (0, 0)) (by (with_reducible repeat (first | refine blk_drewN ?_ _ | refine blk_drew ?_ | refine blk_alloc ?_ _)); exact BK144.out) hb); have n3_ := Aside0.mk (below_step (by repeat (first | (with_reducible first | exact HB.out | apply below_alloc | apply pw_below_drewN | apply below_drew1 | refine below_set ?_ GE141.out | refine below_set ?_ GE142.out | refine below_set ?_ GE144.out) | exact HB.out)) hb); clear BK141; clear BK142; clear BK144; clear HB; have BK141 := n0_; have BK142 := n1_; have BK144 := n2_; have HB := n3_; clear n0_ n1_ n2_ n3_; (try clear hb); (try clear hb2); (try clear hk); (try clear hi); have hnb43 := NB144_141.out; have hnc43 := NB141_144.out; have hnb44 := NB144_142.out; have hnc44 := NB142_144.out; have hcz45_0 : w42.cell? ⟨gb144, 0, none⟩ = some (.int .i64 a0_0) := (blk_cell BK144.out 0).trans rfl; have hcz45_1 : w42.cell? ⟨gb144, 1, none⟩ = some (.int .i64 0) := (blk_cell BK144.out 1).trans rfl; have hcz45_2 : w42.cell? ⟨gb144, 2, none⟩ = some (.string (⟨#[]⟩ : ByteArray)) := (blk_cell BK144.out 2).trans rfl; have hfz45_0 := blk_frozen BK144.out 0; have hfz45_1 := blk_frozen BK144.out 1; have hfz45_2 := blk_frozen BK144.out 2; have hnb46 := NB141_142.out; have hnc46 := NB142_141.out; have hcz47_0 : w42.cell? ⟨gb141, 0, none⟩ = some (.int .i64 a0_0) := (blk_cell BK141.out 0).trans rfl; have hcz47_1 : w42.cell? ⟨gb141, 1, none⟩ = some (.int .i64 a0_1) := (blk_cell BK141.out 1).trans rfl; have hfz47_0 := blk_frozen BK141.out 0; have hfz47_1 := blk_frozen BK141.out 1))
        go_meet
        case rel => exact ⟨_, (0), (0), ((⟨#[]⟩ : ByteArray)), (t145), ((⟨#[]⟩ : ByteArray)), H', ⟨by have := HJ16.out; first | omega | exact Nat.le_refl _⟩, ⟨by (with_reducible repeat (first | refine blk_drewN ?_ _ | refine blk_drew ?_ | refine blk_alloc ?_ _)); refine blk_far ?_ NB141_144.out _; (with_reducible repeat (first | refine blk_drewN ?_ _ | refine blk_drew ?_ | refine blk_alloc ?_ _)); exact BK141.out⟩, ⟨by (with_reducible repeat (first | refine blk_drewN ?_ _ | refine blk_drew ?_ | refine blk_alloc ?_ _)); refine blk_far ?_ NB142_144.out _; (with_reducible repeat (first | refine blk_drewN ?_ _ | refine blk_drew ?_ | refine blk_alloc ?_ _)); exact BK142.out⟩, ⟨by (with_reducible repeat (first | refine blk_drewN ?_ _ | refine blk_drew ?_ | refine blk_alloc ?_ _)); refine blk_put (cs := #[.int .i64 a0_0, .int .i64 0, .string (⟨#[]⟩ : ByteArray)]) ?_ 1 _ rfl; (with_reducible repeat (first | refine blk_drewN ?_ _ | refine blk_drew ?_ | refine blk_alloc ?_ _)); exact BK144.out⟩, ⟨by repeat (first | (with_reducible first | exact HB.out | apply below_alloc | apply pw_below_drewN | apply below_drew1 | refine below_set ?_ GE141.out | refine below_set ?_ GE142.out | refine below_set ?_ GE144.out) | exact HB.out)⟩⟩
  case rest =>
   clear HC5
   try clear c1
   try clear c2
   try clear p2
   try clear c3
   try clear c4
   try clear p6
   try clear c8
   try clear c13
   try clear c14
   try clear c18
   try clear c18b0
   try clear c18b1
   try clear c19
   try clear c20
   try clear c21
   try clear c23
   try clear c23b0
   try clear c23b1
   try clear c24
   try clear c25
   try clear c28
   try clear c28b0
   try clear c28b1
   try clear c29
   try clear c29b0
   try clear c31
   try clear c32
   try clear c34
   try clear c37
   try clear c38
   try clear c40
   try clear c43
   try clear c44
   try clear c46
   try clear c47
   try clear hcz11_0
   try clear hcz11_1
   try clear hcz15_0
   try clear hcz15_1
   try clear hcz15_2
   try clear hcz16_0
   try clear hcz16_1
   try clear hcz22_0
   try clear hcz22_1
   try clear hcz22_2
   try clear hcz26_0
   try clear hcz26_1
   try clear hcz26_2
   try clear hcz33_0
   try clear hcz33_1
   try clear hcz33_2
   try clear hcz35_0
   try clear hcz35_1
   try clear hcz39_0
   try clear hcz39_1
   try clear hcz39_2
   try clear hcz41_0
   try clear hcz41_1
   try clear hcz45_0
   try clear hcz45_1
   try clear hcz45_2
   try clear hcz47_0
   try clear hcz47_1
   try clear hcz9_0
   try clear hcz9_1
   try clear hfz11_0
   try clear hfz11_1
   try clear hfz15_0
   try clear hfz15_1
   try clear hfz15_2
   try clear hfz16_0
   try clear hfz16_1
   try clear hfz22_0
   try clear hfz22_1
   try clear hfz22_2
   try clear hfz26_0
   try clear hfz26_1
   try clear hfz26_2
   try clear hfz33_0
   try clear hfz33_1
   try clear hfz33_2
   try clear hfz35_0
   try clear hfz35_1
   try clear hfz39_0
   try clear hfz39_1
   try clear hfz39_2
   try clear hfz41_0
   try clear hfz41_1
   try clear hfz45_0
   try clear hfz45_1
   try clear hfz45_2
   try clear hfz47_0
   try clear hfz47_1
   try clear hfz9_0
   try clear hfz9_1
   try clear p2
   obtain ⟨kq, x143000_4, x143001_4, x143002_4, x145001_4, x145002_4, HA, HJ4, BK141, BK142, BK144, HB⟩ := hcut
   cases kq with
   | zero => exact absurd HA.out (by simp [marquetryref22_Read.j1])
   | succ kj4 =>
    have H := HA.out
    clear HA
    simp only [marquetryref22_Read.j1] at H
    replace H := Option.bind_eq_some_iff.mp H
    obtain ⟨t146, A480, H⟩ := H
    replace H : (if t146 = true then ((marquetryref22_Lay.f kj4 a0_0 x145001_4 x145002_4).bind fun t147 => (if t147.toList = a1.toList then (some (a0_0, x145001_4, x145002_4, 0)) else (some (0, 0, (⟨#[]⟩ : ByteArray), 320)))) else (some (0, 0, (⟨#[]⟩ : ByteArray), 320))) = some (r1, r2, r3, r4) := H
    have A48 := Aside0.mk A480
    clear A480
    by_cases c49 : t146 = true
    ·subst c49
     have H1 : ((marquetryref22_Lay.f kj4 a0_0 x145001_4 x145002_4).bind fun t147 => (if t147.toList = a1.toList then (some (a0_0, x145001_4, x145002_4, 0)) else (some (0, 0, (⟨#[]⟩ : ByteArray), 320)))) = some (r1, r2, r3, r4) := by rw [if_pos rfl] at H; exact H
     clear H
     have H := H1
     clear H1
     replace H := Option.bind_eq_some_iff.mp H
     obtain ⟨t147, A500, H⟩ := H
     replace H : (if t147.toList = a1.toList then (some (a0_0, x145001_4, x145002_4, 0)) else (some (0, 0, (⟨#[]⟩ : ByteArray), 320))) = some (r1, r2, r3, r4) := H
     have A50 := Aside0.mk A500
     clear A500
     by_cases c51 : t147.toList = a1.toList
     ·rw [if_pos c51] at H
      have c51b0 : (t147.toList == a1.toList) = true := beq_iff_eq.mpr c51
      have c51b1 : (t147.toList != a1.toList) = false := bne_eq_false_iff_eq.mpr c51
      clear c51
      simp only [Option.some.injEq, Prod.mk.injEq] at H
      obtain ⟨rfl, rfl, rfl, rfl⟩ := H
      have hnb52 := NB144_141.out
      have hnc52 := NB141_144.out
      have hnb53 := NB144_142.out
      have hnc53 := NB142_144.out
      have hcz54_0 : wc.cell? ⟨gb144, 0, none⟩ = some (.int .i64 a0_0) := (blk_cell BK144.out 0).trans rfl
      have hcz54_1 : wc.cell? ⟨gb144, 1, none⟩ = some (.int .i64 x145001_4) := (blk_cell BK144.out 1).trans rfl
      have hcz54_2 : wc.cell? ⟨gb144, 2, none⟩ = some (.string x145002_4) := (blk_cell BK144.out 2).trans rfl
      have hfz54_0 := blk_frozen BK144.out 0
      have hfz54_1 := blk_frozen BK144.out 1
      have hfz54_2 := blk_frozen BK144.out 2
      have hnb55 := NB141_142.out
      have hnc55 := NB142_141.out
      have hcz56_0 : wc.cell? ⟨gb141, 0, none⟩ = some (.int .i64 a0_0) := (blk_cell BK141.out 0).trans rfl
      have hcz56_1 : wc.cell? ⟨gb141, 1, none⟩ = some (.int .i64 a0_1) := (blk_cell BK141.out 1).trans rfl
      have hfz56_0 := blk_frozen BK141.out 0
      have hfz56_1 := blk_frozen BK141.out 1
      go_wp2_with (first | ((with_reducible refine gate_callee (f := 41) rfl ?_); refine goesL_ (some 42) rfl rfl Try.func41 (by kernel_rfl) rfl #[.agg #[.int .i64 a0_0, .int .i64 x145001_4, .string x145002_4], .agg #[.int .i64 a0_0, .int .i64 a0_1]] rfl (by (try simp only [List.map_toArray, List.map_cons, List.map_nil]); first | done | rfl | (simp only [List.length_drop, List.length_take]; rfl)) ?_; (with_reducible refine (marquetryref09_Of.calls kj4 a0_0 x145001_4 x145002_4 a0_0 a0_1 true _ A48.out).mono ?_); rintro e w57 ⟨rfl, hb⟩; refine ⟨_, rfl, ?_⟩; have n0_ := Aside0.mk (blk_below (g := gb141) (o := .cells #[.int .i64 a0_0, .int .i64 a0_1] 24 (0, 0)) (by (with_reducible repeat (first | refine blk_drewN ?_ _ | refine blk_drew ?_ | refine blk_alloc ?_ _)); exact BK141.out) hb); have n1_ := Aside0.mk (blk_below (g := gb142) (o := .cells #[.int .i64 x143000_4, .int .i64 x143001_4, .string x143002_4] 29 (0, 0)) (by (with_reducible repeat (first | refine blk_drewN ?_ _ | refine blk_drew ?_ | refine blk_alloc ?_ _)); exact BK142.out) hb); have n2_ := Aside0.mk (blk_below (g := gb144) (o := .cells #[.int .i64 a0_0, .int .i64 x145001_4, .string x145002_4] 29 (0, 0)) (by (with_reducible repeat (first | refine blk_drewN ?_ _ | refine blk_drew ?_ | refine blk_alloc ?_ _)); exact BK144.out) hb); have n3_ := Aside0.mk (below_step (by repeat (first | (with_reducible first | exact HB.out | apply below_alloc | apply pw_below_drewN | apply below_drew1 | refine below_set ?_ GE141.out | refine below_set ?_ GE142.out | refine below_set ?_ GE144.out) | exact HB.out)) hb); clear BK141; clear BK142; clear BK144; clear HB; have BK141 := n0_; have BK142 := n1_; have BK144 := n2_; have HB := n3_; clear n0_ n1_ n2_ n3_; (try clear hb); (try clear hb2); (try clear hk); (try clear hi); have hcz58_0 : w57.cell? ⟨gb144, 0, none⟩ = some (.int .i64 a0_0) := (blk_cell BK144.out 0).trans rfl; have hcz58_1 : w57.cell? ⟨gb144, 1, none⟩ = some (.int .i64 x145001_4) := (blk_cell BK144.out 1).trans rfl; have hcz58_2 : w57.cell? ⟨gb144, 2, none⟩ = some (.string x145002_4) := (blk_cell BK144.out 2).trans rfl; have hfz58_0 := blk_frozen BK144.out 0; have hfz58_1 := blk_frozen BK144.out 1; have hfz58_2 := blk_frozen BK144.out 2) | (go_at_call 21; (with_reducible refine (marquetryref22_Lay.calls kj4 a0_0 x145001_4 x145002_4 t147 _ A50.out).mono ?_); rintro e w59 ⟨rfl, hb⟩; have n0_ := Aside0.mk (blk_below (g := gb141) (o := .cells #[.int .i64 a0_0, .int .i64 a0_1] 24 (0, 0)) (by (with_reducible repeat (first | refine blk_drewN ?_ _ | refine blk_drew ?_ | refine blk_alloc ?_ _)); exact BK141.out) hb); have n1_ := Aside0.mk (blk_below (g := gb142) (o := .cells #[.int .i64 x143000_4, .int .i64 x143001_4, .string x143002_4] 29 (0, 0)) (by (with_reducible repeat (first | refine blk_drewN ?_ _ | refine blk_drew ?_ | refine blk_alloc ?_ _)); exact BK142.out) hb); have n2_ := Aside0.mk (blk_below (g := gb144) (o := .cells #[.int .i64 a0_0, .int .i64 x145001_4, .string x145002_4] 29 (0, 0)) (by (with_reducible repeat (first | refine blk_drewN ?_ _ | refine blk_drew ?_ | refine blk_alloc ?_ _)); exact BK144.out) hb); have n3_ := Aside0.mk (below_step (by repeat (first | (with_reducible first | exact HB.out | apply below_alloc | apply pw_below_drewN | apply below_drew1 | refine below_set ?_ GE141.out | refine below_set ?_ GE142.out | refine below_set ?_ GE144.out) | exact HB.out)) hb); clear BK141; clear BK142; clear BK144; clear HB; have BK141 := n0_; have BK142 := n1_; have BK144 := n2_; have HB := n3_; clear n0_ n1_ n2_ n3_; (try clear hb); (try clear hb2); (try clear hk); (try clear hi); have hcz60_0 : w59.cell? ⟨gb144, 0, none⟩ = some (.int .i64 a0_0) := (blk_cell BK144.out 0).trans rfl; have hcz60_1 : w59.cell? ⟨gb144, 1, none⟩ = some (.int .i64 x145001_4) := (blk_cell BK144.out 1).trans rfl; have hcz60_2 : w59.cell? ⟨gb144, 2, none⟩ = some (.string x145002_4) := (blk_cell BK144.out 2).trans rfl; have hfz60_0 := blk_frozen BK144.out 0; have hfz60_1 := blk_frozen BK144.out 1; have hfz60_2 := blk_frozen BK144.out 2; have hcz61_0 : w59.cell? ⟨gb142, 0, none⟩ = some (.int .i64 x143000_4) := (blk_cell BK142.out 0).trans rfl; have hcz61_1 : w59.cell? ⟨gb142, 1, none⟩ = some (.int .i64 x143001_4) := (blk_cell BK142.out 1).trans rfl; have hcz61_2 : w59.cell? ⟨gb142, 2, none⟩ = some (.string x143002_4) := (blk_cell BK142.out 2).trans rfl; have hfz61_0 := blk_frozen BK142.out 0; have hfz61_1 := blk_frozen BK142.out 1; have hfz61_2 := blk_frozen BK142.out 2))
      refine bodyPost_ret (results_ct rfl _ _ gb142 29 #[.int .i64 a0_0, .int .i64 x145001_4, .string x145002_4] (0, 0) _ rfl (by (with_reducible repeat (first | refine blk_drewN ?_ _ | refine blk_drew ?_ | refine blk_alloc ?_ _)); refine blk_put (cs := #[.int .i64 a0_0, .int .i64 x145001_4, .string x143002_4]) ?_ 2 _ rfl; (with_reducible repeat (first | refine blk_drewN ?_ _ | refine blk_drew ?_ | refine blk_alloc ?_ _)); refine blk_put (cs := #[.int .i64 a0_0, .int .i64 x143001_4, .string x143002_4]) ?_ 1 _ rfl; (with_reducible repeat (first | refine blk_drewN ?_ _ | refine blk_drew ?_ | refine blk_alloc ?_ _)); refine blk_put (cs := #[.int .i64 x143000_4, .int .i64 x143001_4, .string x143002_4]) ?_ 0 _ rfl; (with_reducible repeat (first | refine blk_drewN ?_ _ | refine blk_drew ?_ | refine blk_alloc ?_ _)); exact BK142.out) Try.underlying29 rfl (by kernel_rfl)) rfl ?_
      exact ⟨by first | rfl | (simp [errW_none, errW_some] <;> rfl) | (simp [*, errW_none, errW_some] <;> rfl), by repeat (first | (with_reducible first | exact HB.out | apply below_alloc | apply pw_below_drewN | apply below_drew1 | refine below_set ?_ GE141.out | refine below_set ?_ GE142.out | refine below_set ?_ GE144.out) | exact HB.out)⟩
     ·rw [if_neg c51] at H
      have c51b0 : (t147.toList == a1.toList) = false := beq_eq_false_iff_ne.mpr c51
      have c51b1 : (t147.toList != a1.toList) = true := bne_iff_ne.mpr c51
      simp only [Option.some.injEq, Prod.mk.injEq] at H
      obtain ⟨rfl, rfl, rfl, rfl⟩ := H
      have hnb62 := NB144_141.out
      have hnc62 := NB141_144.out
      have hnb63 := NB144_142.out
      have hnc63 := NB142_144.out
      have hcz64_0 : wc.cell? ⟨gb144, 0, none⟩ = some (.int .i64 a0_0) := (blk_cell BK144.out 0).trans rfl
      have hcz64_1 : wc.cell? ⟨gb144, 1, none⟩ = some (.int .i64 x145001_4) := (blk_cell BK144.out 1).trans rfl
      have hcz64_2 : wc.cell? ⟨gb144, 2, none⟩ = some (.string x145002_4) := (blk_cell BK144.out 2).trans rfl
      have hfz64_0 := blk_frozen BK144.out 0
      have hfz64_1 := blk_frozen BK144.out 1
      have hfz64_2 := blk_frozen BK144.out 2
      have hnb65 := NB141_142.out
      have hnc65 := NB142_141.out
      have hcz66_0 : wc.cell? ⟨gb141, 0, none⟩ = some (.int .i64 a0_0) := (blk_cell BK141.out 0).trans rfl
      have hcz66_1 : wc.cell? ⟨gb141, 1, none⟩ = some (.int .i64 a0_1) := (blk_cell BK141.out 1).trans rfl
      have hfz66_0 := blk_frozen BK141.out 0
      have hfz66_1 := blk_frozen BK141.out 1
      go_wp2_with (first | ((with_reducible refine gate_callee (f := 41) rfl ?_); refine goesL_ (some 42) rfl rfl Try.func41 (by kernel_rfl) rfl #[.agg #[.int .i64 a0_0, .int .i64 x145001_4, .string x145002_4], .agg #[.int .i64 a0_0, .int .i64 a0_1]] rfl (by (try simp only [List.map_toArray, List.map_cons, List.map_nil]); first | done | rfl | (simp only [List.length_drop, List.length_take]; rfl)) ?_; (with_reducible refine (marquetryref09_Of.calls kj4 a0_0 x145001_4 x145002_4 a0_0 a0_1 true _ A48.out).mono ?_); rintro e w67 ⟨rfl, hb⟩; refine ⟨_, rfl, ?_⟩; have n0_ := Aside0.mk (blk_below (g := gb141) (o := .cells #[.int .i64 a0_0, .int .i64 a0_1] 24 (0, 0)) (by (with_reducible repeat (first | refine blk_drewN ?_ _ | refine blk_drew ?_ | refine blk_alloc ?_ _)); exact BK141.out) hb); have n1_ := Aside0.mk (blk_below (g := gb142) (o := .cells #[.int .i64 x143000_4, .int .i64 x143001_4, .string x143002_4] 29 (0, 0)) (by (with_reducible repeat (first | refine blk_drewN ?_ _ | refine blk_drew ?_ | refine blk_alloc ?_ _)); exact BK142.out) hb); have n2_ := Aside0.mk (blk_below (g := gb144) (o := .cells #[.int .i64 a0_0, .int .i64 x145001_4, .string x145002_4] 29 (0, 0)) (by (with_reducible repeat (first | refine blk_drewN ?_ _ | refine blk_drew ?_ | refine blk_alloc ?_ _)); exact BK144.out) hb); have n3_ := Aside0.mk (below_step (by repeat (first | (with_reducible first | exact HB.out | apply below_alloc | apply pw_below_drewN | apply below_drew1 | refine below_set ?_ GE141.out | refine below_set ?_ GE142.out | refine below_set ?_ GE144.out) | exact HB.out)) hb); clear BK141; clear BK142; clear BK144; clear HB; have BK141 := n0_; have BK142 := n1_; have BK144 := n2_; have HB := n3_; clear n0_ n1_ n2_ n3_; (try clear hb); (try clear hb2); (try clear hk); (try clear hi); have hcz68_0 : w67.cell? ⟨gb144, 0, none⟩ = some (.int .i64 a0_0) := (blk_cell BK144.out 0).trans rfl; have hcz68_1 : w67.cell? ⟨gb144, 1, none⟩ = some (.int .i64 x145001_4) := (blk_cell BK144.out 1).trans rfl; have hcz68_2 : w67.cell? ⟨gb144, 2, none⟩ = some (.string x145002_4) := (blk_cell BK144.out 2).trans rfl; have hfz68_0 := blk_frozen BK144.out 0; have hfz68_1 := blk_frozen BK144.out 1; have hfz68_2 := blk_frozen BK144.out 2) | (go_at_call 21; (with_reducible refine (marquetryref22_Lay.calls kj4 a0_0 x145001_4 x145002_4 t147 _ A50.out).mono ?_); rintro e w69 ⟨rfl, hb⟩; have n0_ := Aside0.mk (blk_below (g := gb141) (o := .cells #[.int .i64 a0_0, .int .i64 a0_1] 24 (0, 0)) (by (with_reducible repeat (first | refine blk_drewN ?_ _ | refine blk_drew ?_ | refine blk_alloc ?_ _)); exact BK141.out) hb); have n1_ := Aside0.mk (blk_below (g := gb142) (o := .cells #[.int .i64 x143000_4, .int .i64 x143001_4, .string x143002_4] 29 (0, 0)) (by (with_reducible repeat (first | refine blk_drewN ?_ _ | refine blk_drew ?_ | refine blk_alloc ?_ _)); exact BK142.out) hb); have n2_ := Aside0.mk (blk_below (g := gb144) (o := .cells #[.int .i64 a0_0, .int .i64 x145001_4, .string x145002_4] 29 (0, 0)) (by (with_reducible repeat (first | refine blk_drewN ?_ _ | refine blk_drew ?_ | refine blk_alloc ?_ _)); exact BK144.out) hb); have n3_ := Aside0.mk (below_step (by repeat (first | (with_reducible first | exact HB.out | apply below_alloc | apply pw_below_drewN | apply below_drew1 | refine below_set ?_ GE141.out | refine below_set ?_ GE142.out | refine below_set ?_ GE144.out) | exact HB.out)) hb); clear BK141; clear BK142; clear BK144; clear HB; have BK141 := n0_; have BK142 := n1_; have BK144 := n2_; have HB := n3_; clear n0_ n1_ n2_ n3_; (try clear hb); (try clear hb2); (try clear hk); (try clear hi); have hcz70_0 : w69.cell? ⟨gb142, 0, none⟩ = some (.int .i64 x143000_4) := (blk_cell BK142.out 0).trans rfl; have hcz70_1 : w69.cell? ⟨gb142, 1, none⟩ = some (.int .i64 x143001_4) := (blk_cell BK142.out 1).trans rfl; have hcz70_2 : w69.cell? ⟨gb142, 2, none⟩ = some (.string x143002_4) := (blk_cell BK142.out 2).trans rfl; have hfz70_0 := blk_frozen BK142.out 0; have hfz70_1 := blk_frozen BK142.out 1; have hfz70_2 := blk_frozen BK142.out 2))
      refine bodyPost_ret (results_ct rfl _ _ gb142 29 #[.int .i64 0, .int .i64 0, .string (⟨#[]⟩ : ByteArray)] (0, 0) _ rfl (by (with_reducible repeat (first | refine blk_drewN ?_ _ | refine blk_drew ?_ | refine blk_alloc ?_ _)); refine blk_put (cs := #[.int .i64 0, .int .i64 0, .string x143002_4]) ?_ 2 _ rfl; (with_reducible repeat (first | refine blk_drewN ?_ _ | refine blk_drew ?_ | refine blk_alloc ?_ _)); refine blk_put (cs := #[.int .i64 0, .int .i64 x143001_4, .string x143002_4]) ?_ 1 _ rfl; (with_reducible repeat (first | refine blk_drewN ?_ _ | refine blk_drew ?_ | refine blk_alloc ?_ _)); refine blk_put (cs := #[.int .i64 x143000_4, .int .i64 x143001_4, .string x143002_4]) ?_ 0 _ rfl; (with_reducible repeat (first | refine blk_drewN ?_ _ | refine blk_drew ?_ | refine blk_alloc ?_ _)); exact BK142.out) Try.underlying29 rfl (by kernel_rfl)) rfl ?_
      exact ⟨by first | rfl | (simp [errW_none, errW_some] <;> rfl) | (simp [*, errW_none, errW_some] <;> rfl), by repeat (first | (with_reducible first | exact HB.out | apply below_alloc | apply pw_below_drewN | apply below_drew1 | refine below_set ?_ GE141.out | refine below_set ?_ GE142.out | refine below_set ?_ GE144.out) | exact HB.out)⟩
    ·replace c49 := Bool.eq_false_iff.mpr c49
     subst c49
     have H1 : (some (0, 0, (⟨#[]⟩ : ByteArray), 320)) = some (r1, r2, r3, r4) := by rw [if_neg (show ¬ (false = true) by decide)] at H; exact H
     clear H
     have H := H1
     clear H1
     simp only [Option.some.injEq, Prod.mk.injEq] at H
     obtain ⟨rfl, rfl, rfl, rfl⟩ := H
     have hnb71 := NB144_141.out
     have hnc71 := NB141_144.out
     have hnb72 := NB144_142.out
     have hnc72 := NB142_144.out
     have hcz73_0 : wc.cell? ⟨gb144, 0, none⟩ = some (.int .i64 a0_0) := (blk_cell BK144.out 0).trans rfl
     have hcz73_1 : wc.cell? ⟨gb144, 1, none⟩ = some (.int .i64 x145001_4) := (blk_cell BK144.out 1).trans rfl
     have hcz73_2 : wc.cell? ⟨gb144, 2, none⟩ = some (.string x145002_4) := (blk_cell BK144.out 2).trans rfl
     have hfz73_0 := blk_frozen BK144.out 0
     have hfz73_1 := blk_frozen BK144.out 1
     have hfz73_2 := blk_frozen BK144.out 2
     have hnb74 := NB141_142.out
     have hnc74 := NB142_141.out
     have hcz75_0 : wc.cell? ⟨gb141, 0, none⟩ = some (.int .i64 a0_0) := (blk_cell BK141.out 0).trans rfl
     have hcz75_1 : wc.cell? ⟨gb141, 1, none⟩ = some (.int .i64 a0_1) := (blk_cell BK141.out 1).trans rfl
     have hfz75_0 := blk_frozen BK141.out 0
     have hfz75_1 := blk_frozen BK141.out 1
     go_wp2_with (first | ((with_reducible refine gate_callee (f := 41) rfl ?_); refine goesL_ (some 42) rfl rfl Try.func41 (by kernel_rfl) rfl #[.agg #[.int .i64 a0_0, .int .i64 x145001_4, .string x145002_4], .agg #[.int .i64 a0_0, .int .i64 a0_1]] rfl (by (try simp only [List.map_toArray, List.map_cons, List.map_nil]); first | done | rfl | (simp only [List.length_drop, List.length_take]; rfl)) ?_; (with_reducible refine (marquetryref09_Of.calls kj4 a0_0 x145001_4 x145002_4 a0_0 a0_1 false _ A48.out).mono ?_); rintro e w76 ⟨rfl, hb⟩; refine ⟨_, rfl, ?_⟩; have n0_ := Aside0.mk (blk_below (g := gb141) (o := .cells #[.int .i64 a0_0, .int .i64 a0_1] 24 (0, 0)) (by (with_reducible repeat (first | refine blk_drewN ?_ _ | refine blk_drew ?_ | refine blk_alloc ?_ _)); exact BK141.out) hb); have n1_ := Aside0.mk (blk_below (g := gb142) (o := .cells #[.int .i64 x143000_4, .int .i64 x143001_4, .string x143002_4] 29 (0, 0)) (by (with_reducible repeat (first | refine blk_drewN ?_ _ | refine blk_drew ?_ | refine blk_alloc ?_ _)); exact BK142.out) hb); have n2_ := Aside0.mk (blk_below (g := gb144) (o := .cells #[.int .i64 a0_0, .int .i64 x145001_4, .string x145002_4] 29 (0, 0)) (by (with_reducible repeat (first | refine blk_drewN ?_ _ | refine blk_drew ?_ | refine blk_alloc ?_ _)); exact BK144.out) hb); have n3_ := Aside0.mk (below_step (by repeat (first | (with_reducible first | exact HB.out | apply below_alloc | apply pw_below_drewN | apply below_drew1 | refine below_set ?_ GE141.out | refine below_set ?_ GE142.out | refine below_set ?_ GE144.out) | exact HB.out)) hb); clear BK141; clear BK142; clear BK144; clear HB; have BK141 := n0_; have BK142 := n1_; have BK144 := n2_; have HB := n3_; clear n0_ n1_ n2_ n3_; (try clear hb); (try clear hb2); (try clear hk); (try clear hi); have hcz77_0 : w76.cell? ⟨gb142, 0, none⟩ = some (.int .i64 x143000_4) := (blk_cell BK142.out 0).trans rfl; have hcz77_1 : w76.cell? ⟨gb142, 1, none⟩ = some (.int .i64 x143001_4) := (blk_cell BK142.out 1).trans rfl; have hcz77_2 : w76.cell? ⟨gb142, 2, none⟩ = some (.string x143002_4) := (blk_cell BK142.out 2).trans rfl; have hfz77_0 := blk_frozen BK142.out 0; have hfz77_1 := blk_frozen BK142.out 1; have hfz77_2 := blk_frozen BK142.out 2))
     refine bodyPost_ret (results_ct rfl _ _ gb142 29 #[.int .i64 0, .int .i64 0, .string (⟨#[]⟩ : ByteArray)] (0, 0) _ rfl (by (with_reducible repeat (first | refine blk_drewN ?_ _ | refine blk_drew ?_ | refine blk_alloc ?_ _)); refine blk_put (cs := #[.int .i64 0, .int .i64 0, .string x143002_4]) ?_ 2 _ rfl; (with_reducible repeat (first | refine blk_drewN ?_ _ | refine blk_drew ?_ | refine blk_alloc ?_ _)); refine blk_put (cs := #[.int .i64 0, .int .i64 x143001_4, .string x143002_4]) ?_ 1 _ rfl; (with_reducible repeat (first | refine blk_drewN ?_ _ | refine blk_drew ?_ | refine blk_alloc ?_ _)); refine blk_put (cs := #[.int .i64 x143000_4, .int .i64 x143001_4, .string x143002_4]) ?_ 0 _ rfl; (with_reducible repeat (first | refine blk_drewN ?_ _ | refine blk_drew ?_ | refine blk_alloc ?_ _)); exact BK142.out) Try.underlying29 rfl (by kernel_rfl)) rfl ?_
     exact ⟨by first | rfl | (simp [errW_none, errW_some] <;> rfl) | (simp [*, errW_none, errW_some] <;> rfl), by repeat (first | (with_reducible first | exact HB.out | apply below_alloc | apply pw_below_drewN | apply below_drew1 | refine below_set ?_ GE141.out | refine below_set ?_ GE142.out | refine below_set ?_ GE144.out) | exact HB.out)⟩
 ·replace c4 := Bool.eq_false_iff.mpr c4
  subst c4
  have H1 : (some (0, 0, (⟨#[]⟩ : ByteArray), 2)) = some (r1, r2, r3, r4) := by rw [if_neg (show ¬ (false = true) by decide)] at H; exact H
  clear H
  have H := H1
  clear H1
  simp only [Option.some.injEq, Prod.mk.injEq] at H
  obtain ⟨rfl, rfl, rfl, rfl⟩ := H
  go_enter Try.func19, Try.ntmps19
  go_wp2_with (first | ((with_reducible refine gate_dst (N := 2) rfl ?_); refine box_event ?hg (N := 2) ?hd (cs := #[.int .i64 a0_0, .int .i64 a0_1]) (t := 24) ?hr ?_; (case hd => rfl); (case hg => rfl); (case hr => first | (go_simp; done) | (go_simp; rfl)); intro gb141 hg w78 hbox hb; have n0_ := Aside0.mk (below_step (by repeat (first | (with_reducible first | exact HB.out | apply below_alloc | apply pw_below_drewN | apply below_drew1) | exact HB.out)) hb); have n1_ := Aside0.mk (hbox); have n2_ := Aside0.mk ((by rw [hg]; exact (below_size (by repeat (first | (with_reducible first | exact HB.out | apply below_alloc | apply pw_below_drewN | apply below_drew1) | exact HB.out))) : w.heap.size ≤ gb141)); have n3_ := Aside0.mk ((by rw [hg]; exact (below_size (by repeat (first | (with_reducible first | exact HB.out | apply below_alloc | apply pw_below_drewN | apply below_drew1) | exact HB.out))) : w.heap.size ≤ gb141)); clear HB; have HB := n0_; have BK141 := n1_; have GW141 := n2_; have GE141 := n3_; clear n0_ n1_ n2_ n3_; clear hb hbox hg) | ((with_reducible refine gate_dst (N := 4) rfl ?_); refine box_event ?hg (N := 4) ?hd (cs := #[.int .i64 0, .int .i64 0, .string (⟨#[]⟩ : ByteArray)]) (t := 29) ?hr ?_; (case hd => rfl); (case hg => rfl); (case hr => first | (go_simp; done) | (go_simp; rfl)); intro gb142 hg w79 hbox hb; have n0_ := Aside0.mk (blk_below (g := gb141) (o := .cells #[.int .i64 a0_0, .int .i64 a0_1] 24 (0, 0)) (by (with_reducible repeat (first | refine blk_drewN ?_ _ | refine blk_drew ?_ | refine blk_alloc ?_ _)); exact BK141.out) hb); have n1_ := Aside0.mk (below_step (by repeat (first | (with_reducible first | exact HB.out | apply below_alloc | apply pw_below_drewN | apply below_drew1 | refine below_set ?_ GE141.out) | exact HB.out)) hb); have n2_ := Aside0.mk (hbox); have n3_ := Aside0.mk ((by rw [hg]; exact (below_size (by repeat (first | (with_reducible first | exact HB.out | apply below_alloc | apply pw_below_drewN | apply below_drew1 | refine below_set ?_ GE141.out) | exact HB.out))) : w.heap.size ≤ gb142)); have n4_ := Aside0.mk ((by rw [hg]; exact (below_size (by repeat (first | (with_reducible first | exact HB.out | apply below_alloc | apply pw_below_drewN | apply below_drew1 | refine below_set ?_ GE141.out) | exact HB.out))) : w.heap.size ≤ gb142)); have n5_ := Aside0.mk ((by rw [hg]; exact Nat.ne_of_lt (blk_lt (g := gb141) (o := .cells #[.int .i64 a0_0, .int .i64 a0_1] 24 (0, 0)) (by (with_reducible repeat (first | refine blk_drewN ?_ _ | refine blk_drew ?_ | refine blk_alloc ?_ _)); exact BK141.out)) : gb141 ≠ gb142)); have n6_ := Aside0.mk ((by rw [hg]; exact Nat.ne_of_gt (blk_lt (g := gb141) (o := .cells #[.int .i64 a0_0, .int .i64 a0_1] 24 (0, 0)) (by (with_reducible repeat (first | refine blk_drewN ?_ _ | refine blk_drew ?_ | refine blk_alloc ?_ _)); exact BK141.out)) : gb142 ≠ gb141)); clear BK141; clear HB; have BK141 := n0_; have HB := n1_; have BK142 := n2_; have GW142 := n3_; have GE142 := n4_; have NB141_142 := n5_; have NB142_141 := n6_; clear n0_ n1_ n2_ n3_ n4_ n5_ n6_; clear hb hbox hg; have hnb80 := NB141_142.out; have hnc80 := NB142_141.out; have hcz81_0 : w79.cell? ⟨gb141, 0, none⟩ = some (.int .i64 a0_0) := (blk_cell BK141.out 0).trans rfl; have hcz81_1 : w79.cell? ⟨gb141, 1, none⟩ = some (.int .i64 a0_1) := (blk_cell BK141.out 1).trans rfl; have hfz81_0 := blk_frozen BK141.out 0; have hfz81_1 := blk_frozen BK141.out 1) | ((with_reducible refine gate_callee (f := 40) rfl ?_); refine goesL_ (some 8) rfl rfl Try.func40 (by kernel_rfl) rfl #[.agg #[.int .i64 a0_0, .int .i64 a0_1]] rfl (by (try simp only [List.map_toArray, List.map_cons, List.map_nil]); first | done | rfl | (simp only [List.length_drop, List.length_take]; rfl)) ?_; (with_reducible refine (marquetryref09_Check.calls k a0_0 a0_1 false _ A3.out).mono ?_); rintro e w82 ⟨rfl, hb⟩; refine ⟨_, rfl, ?_⟩; have n0_ := Aside0.mk (blk_below (g := gb141) (o := .cells #[.int .i64 a0_0, .int .i64 a0_1] 24 (0, 0)) (by (with_reducible repeat (first | refine blk_drewN ?_ _ | refine blk_drew ?_ | refine blk_alloc ?_ _)); exact BK141.out) hb); have n1_ := Aside0.mk (blk_below (g := gb142) (o := .cells #[.int .i64 0, .int .i64 0, .string (⟨#[]⟩ : ByteArray)] 29 (0, 0)) (by (with_reducible repeat (first | refine blk_drewN ?_ _ | refine blk_drew ?_ | refine blk_alloc ?_ _)); exact BK142.out) hb); have n2_ := Aside0.mk (below_step (by repeat (first | (with_reducible first | exact HB.out | apply below_alloc | apply pw_below_drewN | apply below_drew1 | refine below_set ?_ GE141.out | refine below_set ?_ GE142.out) | exact HB.out)) hb); clear BK141; clear BK142; clear HB; have BK141 := n0_; have BK142 := n1_; have HB := n2_; clear n0_ n1_ n2_; (try clear hb); (try clear hb2); (try clear hk); (try clear hi); have hcz83_0 : w82.cell? ⟨gb142, 0, none⟩ = some (.int .i64 0) := (blk_cell BK142.out 0).trans rfl; have hcz83_1 : w82.cell? ⟨gb142, 1, none⟩ = some (.int .i64 0) := (blk_cell BK142.out 1).trans rfl; have hcz83_2 : w82.cell? ⟨gb142, 2, none⟩ = some (.string (⟨#[]⟩ : ByteArray)) := (blk_cell BK142.out 2).trans rfl; have hfz83_0 := blk_frozen BK142.out 0; have hfz83_1 := blk_frozen BK142.out 1; have hfz83_2 := blk_frozen BK142.out 2))
  refine bodyPost_ret (results_ct rfl _ _ gb142 29 #[.int .i64 0, .int .i64 0, .string (⟨#[]⟩ : ByteArray)] (0, 0) _ rfl (by (with_reducible repeat (first | refine blk_drewN ?_ _ | refine blk_drew ?_ | refine blk_alloc ?_ _)); refine blk_put (cs := #[.int .i64 0, .int .i64 0, .string (⟨#[]⟩ : ByteArray)]) ?_ 2 _ rfl; (with_reducible repeat (first | refine blk_drewN ?_ _ | refine blk_drew ?_ | refine blk_alloc ?_ _)); refine blk_put (cs := #[.int .i64 0, .int .i64 0, .string (⟨#[]⟩ : ByteArray)]) ?_ 1 _ rfl; (with_reducible repeat (first | refine blk_drewN ?_ _ | refine blk_drew ?_ | refine blk_alloc ?_ _)); refine blk_put (cs := #[.int .i64 0, .int .i64 0, .string (⟨#[]⟩ : ByteArray)]) ?_ 0 _ rfl; (with_reducible repeat (first | refine blk_drewN ?_ _ | refine blk_drew ?_ | refine blk_alloc ?_ _)); exact BK142.out) Try.underlying29 rfl (by kernel_rfl)) rfl ?_
  exact ⟨by first | rfl | (simp [errW_none, errW_some] <;> rfl) | (simp [*, errW_none, errW_some] <;> rfl), by repeat (first | (with_reducible first | exact HB.out | apply below_alloc | apply pw_below_drewN | apply below_drew1 | refine below_set ?_ GE141.out | refine below_set ?_ GE142.out) | exact HB.out)⟩

end Go.Proofs.Ytncehlbhjoejhaa.H
end
