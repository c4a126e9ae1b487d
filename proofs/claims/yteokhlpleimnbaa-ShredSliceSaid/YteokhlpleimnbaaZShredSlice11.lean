/- Texts of the claim, packed: H22. -/
import Derived.BigRegion
import Derived.Deep.RegionHeld3
import Derived.Deep.RegionWith
import Derived.Lib.Hide
import Derived.Test.YteokhlpleimnbaaZShredSlice5
import Derived.Test.YteokhlpleimnbaaZShredSlice7
import Derived.Test.YteokhlpleimnbaaZShredSlice8
import Derived.Test.YteokhlpleimnbaaZShredSlice10
section
-- Laid by this session's hprint.py, out of the kit's print.py and texts of the session. Not trusted: Lean checks it.
namespace Go.Proofs.Yteokhlpleimnbaa.H
open Go.RowKit Go.Proofs.YteokhlpleimnbaaW.PrintWords Go.Proofs.YteokhlpleimnbaaW.PrintLast Go.Proofs.YteokhlpleimnbaaW.PrintMore
attribute [local go_sem] max2_int min2_int max_two min_two max_three min_three max_four min_four
set_option linter.unusedVariables false
set_option linter.unusedSimpArgs false

-- OVPART Derived.Lib.Hide Derived.Deep.RegionHeld3 Derived.BigRegion Derived.Deep.RegionWith
def ofT_ (t0 t1 : Int) (x : S58) : Bool := (datum_Of.f x.f0 x.f1 x.f2 t0 t1).getD false
theorem ofT_all (k i : Int) (t : ByteArray) (t0 t1 : Int) : ∃ b, datum_Of.f k i t t0 t1 = some b := by
 unfold datum_Of.f datum_Check.f datum_fine.f
 simp only [Option.bind_some]
 repeat' split
 all_goals exact ⟨_, rfl⟩
def lows_ : Int → List Int → List Int
 | _, [] => []
 | d, s :: ss => if s = 2 then (d + 1) :: lows_ (d + 1) ss else lows_ (if s = 0 then d else d + 1) ss
theorem least_loop_ (st : List Int) (hb : st.length < 1000000000000) : ∀ n i : Nat, i ≤ st.length → st.length - i ≤ n → ∀ (out : List Int) (d : Nat), out.length ≤ i + 1 → d ≤ i → shred_least.l0 (n + 1) out (d : Int) st (st.length : Int) (i : Int) = some (out ++ lows_ (d : Int) (st.drop i))
 | n, i, hi, hn, out, d, ho, hd => by
  unfold shred_least.l0
  by_cases h : i < st.length
  ·have e0 : rd st (i : Int) = st[i] := by unfold rd; simp [List.getD, h]
   have hw : wrap64 ((i : Int) + 1) = ((i + 1 : Nat) : Int) := by unfold wrap64; omega
   have hw2 : wrap64 ((d : Int) + 1) = ((d + 1 : Nat) : Int) := by unfold wrap64; omega
   rw [if_pos (by omega), if_pos (by omega), if_pos (by omega), hw, hw2, List.drop_eq_getElem_cons h]
   cases n with
   | zero => omega
   | succ n =>
    unfold lows_
    rw [← e0]
    by_cases h0 : rd st (i : Int) = 0
    ·rw [if_pos h0, if_neg (by omega), if_neg (by omega), if_pos h0]
     exact least_loop_ st hb n (i + 1) (by omega) (by omega) out d (by omega) (by omega)
    ·rw [if_neg h0]
     by_cases h2 : rd st (i : Int) = 2
     ·rw [if_pos h2, if_pos (by omega), if_pos h2]
      have := least_loop_ st hb n (i + 1) (by omega) (by omega) (out ++ [((d + 1 : Nat) : Int)]) (d + 1) (by simp; omega) (by omega)
      rw [this, List.append_assoc]
      simp
     ·rw [if_neg h2, if_neg h2, if_neg h0]
      have := least_loop_ st hb n (i + 1) (by omega) (by omega) out (d + 1) (by omega) (by omega)
      rw [this]
      simp
  ·rw [if_neg (by omega), List.drop_eq_nil_of_le (by omega)]
   unfold lows_
   rw [List.append_nil]
theorem least_all_ (p : List ByteArray) (st : List Int) (a b c d : Int) (hb : st.length < 1000000000000) : shred_least.f (st.length + 1) p st a b c d = some (0 :: lows_ 0 st) := by
 unfold shred_least.f
 exact least_loop_ st hb st.length 0 (by omega) (by omega) [0] 0 (by simp) (by omega)
def okE_ (low : List Int) (rep dfn r d : Int) : Bool := decide (0 ≤ r) && decide (r ≤ rep) && decide (r < (low.length : Int)) && decide (rd low r ≤ d) && decide (d ≤ dfn)
def okL_ (low : List Int) (rep dfn : Int) : List Int → List Int → Bool
 | r :: rs, d :: ds => okE_ low rep dfn r d && okL_ low rep dfn rs ds
 | _, _ => true
def cnt_ (dfn : Int) : List Int → Nat
 | [] => 0
 | d :: ds => (if d = dfn then 1 else 0) + cnt_ dfn ds
theorem cnt_app (dfn : Int) : ∀ a b : List Int, cnt_ dfn (a ++ b) = cnt_ dfn a + cnt_ dfn b
 | [], b => by simp [cnt_]
 | x :: a, b => by rw [List.cons_append, cnt_, cnt_, cnt_app dfn a b]; omega
theorem cnt_next (dfn : Int) (l : List Int) (i : Nat) (h : i < l.length) : cnt_ dfn (l.take (i + 1)) = cnt_ dfn (l.take i) + (if rd l (i : Int) = dfn then 1 else 0) := by
 have e0 : rd l (i : Int) = l[i] := by unfold rd; simp [List.getD, h]
 rw [List.take_succ_eq_append_getElem h, cnt_app, e0]
 rfl
theorem cnt_le (dfn : Int) : ∀ l : List Int, cnt_ dfn l ≤ l.length
 | [] => by simp [cnt_]
 | d :: l => by
  have := cnt_le dfn l
  rw [cnt_, List.length_cons]
  split <;> omega
theorem okL_next (low : List Int) (rep dfn : Int) : ∀ (a b : List Int) (i : Nat), i < a.length → i < b.length → okL_ low rep dfn (a.take (i + 1)) (b.take (i + 1)) = (okL_ low rep dfn (a.take i) (b.take i) && okE_ low rep dfn (rd a (i : Int)) (rd b (i : Int)))
 | [], _, i, h, _ => by simp at h
 | _ :: _, [], i, _, h => by simp at h
 | r :: a, d :: b, 0, _, _ => by simp [okL_, rd]
 | r :: a, d :: b, i + 1, ha, hb => by
  have := okL_next low rep dfn a b i (by simpa using ha) (by simpa using hb)
  have e1 : rd (r :: a) ((i + 1 : Nat) : Int) = rd a (i : Int) := by unfold rd; simp
  have e2 : rd (d :: b) ((i + 1 : Nat) : Int) = rd b (i : Int) := by unfold rd; simp
  rw [List.take_succ_cons, List.take_succ_cons, List.take_succ_cons, List.take_succ_cons, okL_, okL_, this, e1, e2, Bool.and_assoc]
theorem okL_bad (low : List Int) (rep dfn : Int) : ∀ (a b : List Int) (i : Nat), okL_ low rep dfn (a.take i) (b.take i) = false → okL_ low rep dfn a b = false
 | [], _, i, h => by simp [okL_] at h
 | _ :: _, [], i, h => by cases i <;> simp [okL_] at h
 | r :: a, d :: b, 0, h => by simp [okL_] at h
 | r :: a, d :: b, i + 1, h => by
  rw [List.take_succ_cons, List.take_succ_cons, okL_] at h
  rw [okL_]
  cases h1 : okE_ low rep dfn r d with
  | false => rfl
  | true =>
   rw [h1, Bool.true_and] at h
   rw [Bool.true_and]
   exact okL_bad low rep dfn a b i h
def begin_ (l0 l1 : List Int) : Bool := decide ((l0.length : Int) = (l1.length : Int)) && decide ((l0.length : Int) ≤ 65536) && (decide ((l0.length : Int) = 0) || decide (rd l0 0 = 0))
def chk_ (st : List Int) (rep dfn t0 t1 : Int) (l0 l1 : List Int) (l2 : List S58) : Int :=
 if begin_ l0 l1 = true ∧ okL_ (0 :: lows_ 0 st) rep dfn l0 l1 = true ∧ cnt_ dfn l1 = l2.length ∧ l2.any (fun x => !ofT_ t0 t1 x) = false then 0 else 280
def shred_Check.f (l0_0 : List ByteArray) (l0_1 : List Int) (a0_2 a0_3 a0_4 a0_5 : Int) (l1_0 l1_1 : List Int) (l1_2 : List S58) : Option Int :=
 if l0_1.length < 1000000000000 ∧ l1_0.length ≤ 1000000 ∧ l1_1.length ≤ 1000000 ∧ l1_2.length ≤ 1000000 then some (chk_ l0_1 a0_2 a0_3 a0_4 a0_5 l1_0 l1_1 l1_2) else none
structure Lf_ (w W : World) (x0 x1 x2 x3 x4 x5 y0 y1 y2 : Value) : Prop where
 b0 : W.heap[w.heap.size]? = some (.cells #[x0, x1, x2, x3, x4, x5] 44 (0, 0))
 b1 : W.heap[w.heap.size + 1]? = some (.cells #[y0, y1, y2] 28 (0, 0))
 below : Below w.heap.size w W
theorem Lf_.next {w W W' : World} {x0 x1 x2 x3 x4 x5 y0 y1 y2 : Value} (h : Lf_ w W x0 x1 x2 x3 x4 x5 y0 y1 y2) (hb : Below W.heap.size W W') : Lf_ w W' x0 x1 x2 x3 x4 x5 y0 y1 y2 := ⟨blk_below h.b0 hb, blk_below h.b1 hb, below_step h.below hb⟩
theorem Lf_.drew {w W : World} {x0 x1 x2 x3 x4 x5 y0 y1 y2 : Value} (h : Lf_ w W x0 x1 x2 x3 x4 x5 y0 y1 y2) : Lf_ w W.drew x0 x1 x2 x3 x4 x5 y0 y1 y2 := ⟨h.b0, h.b1, h.below.drew⟩
theorem Lf_.start (w : World) (x0 x1 x2 x3 x4 x5 y0 y1 y2 : Value) : Lf_ w ((w.alloc (.cells #[x0, x1, x2, x3, x4, x5] 44)).alloc (.cells #[y0, y1, y2] 28)) x0 x1 x2 x3 x4 x5 y0 y1 y2 := by
 refine ⟨blk_alloc (blk_new w _) _, ?_, below_alloc (below_alloc (Below.refl _ _) _) _⟩
 have h := blk_new (w.alloc (.cells #[x0, x1, x2, x3, x4, x5] 44)) (.cells #[y0, y1, y2] 28)
 rw [World.size_alloc] at h
 exact h
theorem Lf_.cells {w W : World} {x0 x1 x2 x3 x4 x5 y0 y1 y2 : Value} (h : Lf_ w W x0 x1 x2 x3 x4 x5 y0 y1 y2) : (W.cell? ⟨w.heap.size, 2, none⟩ = some x2 ∧ W.cell? ⟨w.heap.size, 3, none⟩ = some x3) ∧
  W.cell? ⟨w.heap.size + 1, 0, none⟩ = some y0 ∧ W.cell? ⟨w.heap.size + 1, 1, none⟩ = some y1 ∧ W.cell? ⟨w.heap.size + 1, 2, none⟩ = some y2 :=
 ⟨⟨blk_cell h.b0 2, blk_cell h.b0 3⟩, blk_cell h.b1 0, blk_cell h.b1 1, blk_cell h.b1 2⟩
set_option maxHeartbeats 4000000 in
set_option maxRecDepth 100000 in
theorem check1_calls_ (t0 t1 : Int) (x : S58) (b : Nat) (w : World) (h0 : w.cell? ⟨b, 4, none⟩ = some (.int .i64 t0)) (h1 : w.cell? ⟨b, 5, none⟩ = some (.int .i64 t1)) :
  Calls Try.prog 29 #[aggD x, .pointer (some ⟨b, 0, none⟩)] w fun e w' => e = .returned (.bool (!ofT_ t0 t1 x)) ∧ Below w.heap.size w w' := by
 have l0 := World.block_lt_of_cell? w _ h0
 simp only at l0
 have e0 : ∀ o, (w.alloc o).cell? ⟨b, 4, none⟩ = some (.int .i64 t0) := fun o => ((below_alloc (Below.refl _ _) o).cell (p := ⟨b, 4, none⟩) l0).trans h0
 have e1 : ∀ o, (w.alloc o).cell? ⟨b, 5, none⟩ = some (.int .i64 t1) := fun o => ((below_alloc (Below.refl _ _) o).cell (p := ⟨b, 5, none⟩) l0).trans h1
 have n0 : b ≠ w.heap.size := by omega
 obtain ⟨r, hr⟩ := ofT_all x.f0 x.f1 x.f2 t0 t1
 have hob : ofT_ t0 t1 x = r := by unfold ofT_; rw [hr]; rfl
 rw [hob]
 have HR := Lib.hid hr
 clear h0 h1 hr hob
 go_enter Try.func29, Try.ntmps29
 go_wp2_with fail
 refine (datum_Of.calls _ _ _ _ _ r _ HR.out).mono ?_
 rintro e w1 ⟨rfl, hB⟩
 have hB' := below_step (below_alloc (Below.refl w.heap.size w) _) hB
 clear hB
 go_wp2_with fail
 go_ret
 exact ⟨rfl, hB'⟩
set_option maxHeartbeats 8000000 in
set_option maxRecDepth 100000 in
theorem shred_Check.calls (A0_0 : Option Addr) (c0_0 : Nat) (l0_0 : List ByteArray) (A0_1 : Option Addr) (c0_1 : Nat) (l0_1 : List Int) (a0_2 : Int) (a0_3 : Int) (a0_4 : Int) (a0_5 : Int) (A1_0 : Option Addr) (c1_0 : Nat) (l1_0 : List Int) (A1_1 : Option Addr) (c1_1 : Nat) (l1_1 : List Int) (A1_2 : Option Addr) (c1_2 : Nat) (l1_2 : List (S58)) (r : Int) (w : World) (hr0_0 : Kd.C Kd.string w A0_0 l0_0.length l0_0) (hc0_0 : l0_0.length ≤ c0_0) (hr0_1 : Kd.C (Kd.int .i64) w A0_1 l0_1.length l0_1) (hc0_1 : l0_1.length ≤ c0_1) (hr1_0 : Kd.C (Kd.int .i64) w A1_0 l1_0.length l1_0) (hc1_0 : l1_0.length ≤ c1_0) (hr1_1 : Kd.C (Kd.int .i64) w A1_1 l1_1.length l1_1) (hc1_1 : l1_1.length ≤ c1_1) (hr1_2 : Kd.C k58 w A1_2 l1_2.length l1_2) (hc1_2 : l1_2.length ≤ c1_2) (h : shred_Check.f l0_0 l0_1 a0_2 a0_3 a0_4 a0_5 l1_0 l1_1 l1_2 = some r) :
  Calls Try.prog 13 #[.agg #[.slice A0_0 l0_0.length c0_0, .slice A0_1 l0_1.length c0_1, .int .i64 a0_2, .int .i64 a0_3, .int .i64 a0_4, .int .i64 a0_5], .agg #[.slice A1_0 l1_0.length c1_0, .slice A1_1 l1_1.length c1_1, .slice A1_2 l1_2.length c1_2]] w fun e w' => e = .returned (.int .i64 r) ∧ Below w.heap.size w w' := by
 unfold shred_Check.f at h
 split at h
 case isFalse => cases h
 case isTrue hlen =>
 obtain rfl := Option.some.inj h
 clear h
 obtain ⟨m0, m1, m2, m3⟩ := hlen
 have HE := Lib.hid (least_all_ l0_0 l0_1 a0_2 a0_3 a0_4 a0_5 m0)
 have hS := Lf_.start w (.slice A0_0 l0_0.length c0_0) (.slice A0_1 l0_1.length c0_1) (.int .i64 a0_2) (.int .i64 a0_3) (.int .i64 a0_4) (.int .i64 a0_5) (.slice A1_0 l1_0.length c1_0) (.slice A1_1 l1_1.length c1_1) (.slice A1_2 l1_2.length c1_2)
 have HV := Lib.hid (show chk_ l0_1 a0_2 a0_3 a0_4 a0_5 l1_0 l1_1 l1_2 = if begin_ l1_0 l1_1 = true ∧ okL_ (0 :: lows_ 0 l0_1) a0_2 a0_3 l1_0 l1_1 = true ∧ cnt_ a0_3 l1_1 = l1_2.length ∧ l1_2.any (fun x => !ofT_ a0_4 a0_5 x) = false then 0 else 280 from rfl)
 generalize chk_ l0_1 a0_2 a0_3 a0_4 a0_5 l1_0 l1_1 l1_2 = res at *
 generalize 0 :: lows_ 0 l0_1 = low at *
 clear m0
 go_enter Try.func13, Try.ntmps13
 go_wp2_with fail
 refine (shred_least.calls _ A0_0 c0_0 l0_0 A0_1 c0_1 l0_1 a0_2 a0_3 a0_4 a0_5 low _ (Kd.C_below hr0_0 hS.below) hc0_0 (Kd.C_below hr0_1 hS.below) hc0_1 HE.out).mono ?_
 rintro e w1 ⟨v0, rfl, R0, hB1⟩
 have hS1 := hS.next hB1
 obtain ⟨D0, d0, rfl⟩ := Kd.R_slice R0
 obtain ⟨-, hd0, hL1⟩ := Kd.R_reads' R0
 clear hB1 hS HE R0
 obtain ⟨⟨x2, x3⟩, y0, y1, y2⟩ := hS1.cells
 by_cases b1 : l1_0.length = l1_1.length
 case neg =>
  have b1b : ((l1_0.length : Int) == (l1_1.length : Int)) = false := beq_eq_false_iff_ne.mpr (by omega)
  have HN := Lib.hid (show begin_ l1_0 l1_1 = false by unfold begin_; simp; omega)
  go_wp2_with fail
  go_loopw [7, 8] (fun v7 v8 wr => v7 = .bool false ∧ v8 = .int .i64 0 ∧ wr = w1) (fun _ _ _ => 0)
  case atStart => exact ⟨rfl, rfl, rfl⟩
  case round =>
   obtain ⟨rfl, rfl, rfl⟩ := hrel
   go_wp2_with fail
   go_ret
   exact ⟨by rw [HV.out, if_neg (fun hh => absurd (HN.out.symm.trans hh.1) (by decide))] <;> rfl, hS1.below⟩
 case pos =>
 have b1b : ((l1_0.length : Int) == (l1_1.length : Int)) = true := beq_iff_eq.mpr (by omega)
 have HB1 := Lib.hid b1
 have b1l : l1_0.length ≤ l1_1.length := Nat.le_of_eq b1
 have b1g : l1_1.length ≤ l1_0.length := Nat.le_of_eq b1.symm
 clear b1
 by_cases b2 : (l1_0.length : Int) ≤ 65536
 case neg =>
  have b2b : decide ((l1_0.length : Int) ≤ 65536) = false := decide_eq_false b2
  have HN := Lib.hid (show begin_ l1_0 l1_1 = false by unfold begin_; simp; omega)
  go_wp2_with fail
  go_loopw [7, 8] (fun v7 v8 wr => v7 = .bool false ∧ v8 = .int .i64 0 ∧ wr = w1) (fun _ _ _ => 0)
  case atStart => exact ⟨rfl, rfl, rfl⟩
  case round =>
   obtain ⟨rfl, rfl, rfl⟩ := hrel
   go_wp2_with fail
   go_ret
   exact ⟨by rw [HV.out, if_neg (fun hh => absurd (HN.out.symm.trans hh.1) (by decide))] <;> rfl, hS1.below⟩
 case pos =>
 have b2b : decide ((l1_0.length : Int) ≤ 65536) = true := decide_eq_true b2
 by_cases b3 : l1_0.length = 0
 case pos =>
  obtain rfl := List.eq_nil_of_length_eq_zero b3
  obtain rfl : l1_1 = [] := List.eq_nil_of_length_eq_zero (by omega)
  have HG := Lib.hid (show begin_ ([] : List Int) [] = true ∧ okL_ low a0_2 a0_3 [] [] = true ∧ 0 = cnt_ a0_3 [] from ⟨by decide, rfl, rfl⟩)
  clear HB1 b1l b1g b1b b2 b2b b3
  go_wp2_with fail
  go_loopw [6, 7, 8] (fun v6 v7 v8 wr => v6 = .int .i64 0 ∧ v7 = .bool true ∧ v8 = .int .i64 0 ∧ wr = w1) (fun _ _ _ _ => 0)
  case atStart => exact ⟨rfl, rfl, rfl, rfl⟩
  case round =>
   obtain ⟨rfl, rfl, rfl, rfl⟩ := hrel
   by_cases hc : 0 = l1_2.length
   ·have hcb : ((0 : Int) != (l1_2.length : Int)) = false := bne_eq_false_iff_eq.mpr (by omega)
    have HC := Lib.hid hc
    clear hc
    go_wp2_with fail
    refine (contains_func 29 _ Try.func29 (by kernel_rfl) rfl #[.pointer (some ⟨w.heap.size, 0, none⟩)] A1_2 c1_2 l1_2 (fun x => !ofT_ a0_4 a0_5 x) _ (Kd.C_below hr1_2 hS1.below) ⟨fun x _ W hW => check1_calls_ a0_4 a0_5 x _ W (blk_cell (blk_below hS1.b0 hW) 4) (blk_cell (blk_below hS1.b0 hW) 5)⟩ (by omega)).mono ?_
    rintro e w3 ⟨rfl, hB3⟩
    have hb3 := below_step hS1.below hB3
    obtain ⟨bb, hbb⟩ : ∃ bb, l1_2.any (fun x => !ofT_ a0_4 a0_5 x) = bb := ⟨_, rfl⟩
    rw [hbb]
    have HBB := Lib.hid hbb
    clear hbb
    cases bb
    ·go_wp2_with fail
     go_ret
     exact ⟨by rw [HV.out, if_pos ⟨HG.out.1, HG.out.2.1, HG.out.2.2.symm.trans HC.out, HBB.out⟩] <;> rfl, hb3⟩
    ·go_wp2_with fail
     go_ret
     exact ⟨by rw [HV.out, if_neg (fun hh => absurd (HBB.out.symm.trans hh.2.2.2) (by decide))] <;> rfl, hb3⟩
   ·have hcb : ((0 : Int) != (l1_2.length : Int)) = true := bne_iff_ne.mpr (by omega)
    go_wp2_with fail
    go_ret
    exact ⟨by rw [HV.out, if_neg (fun hh => hc (HG.out.2.2.trans hh.2.2.1))] <;> rfl, hS1.below⟩
 case neg =>
 obtain ⟨adA, eA, hxA⟩ := Kd.at_int (Kd.C_below hr1_0 hS1.below) 0 (by omega) (by omega)
 have b3b : ((l1_0.length : Int) == 0) = false := beq_eq_false_iff_ne.mpr (by omega)
 have e00 : adA.add ((0 : Int).toNat) = adA := by show adA.add 0 = adA; simp [Addr.add]
 rw [e00] at hxA
 clear e00
 by_cases b4 : rd l1_0 0 = 0
 case neg =>
  have b4b : (rd l1_0 0 == 0) = false := beq_eq_false_iff_ne.mpr b4
  cases eA
  have HN := Lib.hid (show begin_ l1_0 l1_1 = false by unfold begin_; rw [decide_eq_false (show ¬ (l1_0.length : Int) = 0 by omega), decide_eq_false b4]; simp)
  go_wp2_with fail
  go_loopw [7, 8] (fun v7 v8 wr => v7 = .bool false ∧ v8 = .int .i64 0 ∧ wr = w1) (fun _ _ _ => 0)
  case atStart => exact ⟨rfl, rfl, rfl⟩
  case round =>
   obtain ⟨rfl, rfl, rfl⟩ := hrel
   go_wp2_with fail
   go_ret
   exact ⟨by rw [HV.out, if_neg (fun hh => absurd (HN.out.symm.trans hh.1) (by decide))] <;> rfl, hS1.below⟩
 case pos =>
 have b4b : (rd l1_0 0 == 0) = true := beq_iff_eq.mpr b4
 have HBG := Lib.hid (show begin_ l1_0 l1_1 = true by unfold begin_; rw [decide_eq_true (show (l1_0.length : Int) = (l1_1.length : Int) by omega), decide_eq_true b2, decide_eq_true b4]; simp)
 have hm2 : l1_1.length ≤ 1000000 := m2
 cases eA
 go_wp2_with fail
 clear b1b b2b b3b b4b hxA b4 b2
 go_loopw [6, 7, 8] (fun v6 v7 v8 wr => ∃ (i t : Nat) (f : Bool), v6 = .int .i64 (t : Int) ∧ v7 = .bool f ∧ v8 = .int .i64 (i : Int) ∧ i ≤ l1_0.length ∧ t ≤ i ∧ Hid ((f = true → okL_ low a0_2 a0_3 (l1_0.take i) (l1_1.take i) = true ∧ t = cnt_ a0_3 (l1_1.take i)) ∧ (f = false → okL_ low a0_2 a0_3 l1_0 l1_1 = false)) ∧ Lf_ w wr (.slice A0_0 l0_0.length c0_0) (.slice A0_1 l0_1.length c0_1) (.int .i64 a0_2) (.int .i64 a0_3) (.int .i64 a0_4) (.int .i64 a0_5) (.slice (some adA) l1_0.length c1_0) (.slice A1_1 l1_1.length c1_1) (.slice A1_2 l1_2.length c1_2) ∧ Below w1.heap.size w1 wr) (fun _ _ v8 _ => l1_0.length - (intOf v8).toNat)
 case atStart => exact ⟨0, 0, true, rfl, rfl, rfl, Nat.zero_le _, Nat.le_refl _, Lib.hid ⟨fun _ => ⟨by simp [okL_], rfl⟩, fun hh => absurd hh (by decide)⟩, hS1, Below.refl _ _⟩
 case round =>
  obtain ⟨i, t, f, rfl, rfl, rfl, hi, ht, hI, hSw, hBw⟩ := hrel
  clear x2 x3 y0 y1 y2
  obtain ⟨⟨x2, x3⟩, y0, y1, y2⟩ := hSw.cells
  cases f
  ·have HF := Lib.hid (hI.out.2 rfl)
   clear hI
   go_wp2_with fail
   go_ret
   exact ⟨by rw [HV.out, if_neg (fun hh => absurd (HF.out.symm.trans hh.2.1) (by decide))] <;> rfl, hSw.below⟩
  ·have HI := Lib.hid (hI.out.1 rfl)
   clear hI
   by_cases hlt : i < l1_0.length
   case neg =>
    have hie : i = l1_0.length := by omega
    have hie2 : i = l1_1.length := by omega
    have HG := Lib.hid (show begin_ l1_0 l1_1 = true ∧ okL_ low a0_2 a0_3 l1_0 l1_1 = true ∧ t = cnt_ a0_3 l1_1 from by
     have h1 := HI.out.1
     have h2 := HI.out.2
     rw [hie2, List.take_length] at h2
     rw [hie, List.take_length, HB1.out, List.take_length] at h1
     exact ⟨HBG.out, h1, h2⟩)
    clear hie2
    have hltb : decide ((i : Int) < (l1_0.length : Int)) = false := decide_eq_false (by omega)
    by_cases hc : t = l1_2.length
    ·have hcb : (((t : Nat) : Int) != (l1_2.length : Int)) = false := bne_eq_false_iff_eq.mpr (by omega)
     have HC := Lib.hid hc
     clear hc
     go_wp2_with fail
     refine (contains_func 29 _ Try.func29 (by kernel_rfl) rfl #[.pointer (some ⟨w.heap.size, 0, none⟩)] A1_2 c1_2 l1_2 (fun x => !ofT_ a0_4 a0_5 x) _ (Kd.C_below hr1_2 hSw.below) ⟨fun x _ W hW => check1_calls_ a0_4 a0_5 x _ W (blk_cell (blk_below hSw.b0 hW) 4) (blk_cell (blk_below hSw.b0 hW) 5)⟩ (by omega)).mono ?_
     rintro e w3 ⟨rfl, hB3⟩
     have hb3 := below_step hSw.below hB3
     obtain ⟨bb, hbb⟩ : ∃ bb, l1_2.any (fun x => !ofT_ a0_4 a0_5 x) = bb := ⟨_, rfl⟩
     rw [hbb]
     have HBB := Lib.hid hbb
     clear hbb
     cases bb
     ·go_wp2_with fail
      go_ret
      exact ⟨by rw [HV.out, if_pos ⟨HG.out.1, HG.out.2.1, HG.out.2.2.symm.trans HC.out, HBB.out⟩] <;> rfl, hb3⟩
     ·go_wp2_with fail
      go_ret
      exact ⟨by rw [HV.out, if_neg (fun hh => absurd (HBB.out.symm.trans hh.2.2.2) (by decide))] <;> rfl, hb3⟩
    ·have hcb : (((t : Nat) : Int) != (l1_2.length : Int)) = true := bne_iff_ne.mpr (by omega)
     go_wp2_with fail
     go_ret
     exact ⟨by rw [HV.out, if_neg (fun hh => hc (HG.out.2.2.trans hh.2.2.1))] <;> rfl, hSw.below⟩
   case pos =>
   have hlt1 : i < l1_1.length := by omega
   have hltb : decide ((i : Int) < (l1_0.length : Int)) = true := decide_eq_true (by omega)
   go_wp2_with fail
   have hSq := hSw.drew
   have hBq := hBw.drew
   generalize hwq : wr.drew = wq at *
   clear x2 x3 y0 y1 y2
   obtain ⟨⟨x2, x3⟩, y0, y1, y2⟩ := hSq.cells
   obtain ⟨ad0, e0, hx0⟩ := Kd.at_int (Kd.C_below hr1_0 hSq.below) (i : Int) (by omega) (by omega)
   obtain ⟨ad1, e1, hx1⟩ := Kd.at_int (Kd.C_below hr1_1 hSq.below) (i : Int) (by omega) (by omega)
   cases e0
   cases e1
   simp only [Int.toNat_natCast] at hx0 hx1
   obtain ⟨r, hrd0⟩ : ∃ r, rd l1_0 (i : Int) = r := ⟨_, rfl⟩
   obtain ⟨d, hrd1⟩ : ∃ d, rd l1_1 (i : Int) = d := ⟨_, rfl⟩
   rw [hrd0] at hx0
   rw [hrd1] at hx1
   have HRD := Lib.hid (And.intro hrd0 hrd1)
   clear hrd0 hrd1
   refine wp_region_held_drew (S := fun W => (W.cell? ⟨w.heap.size + 1, 0, none⟩ = some (.slice (some adA) l1_0.length c1_0) ∧ W.cell? ⟨w.heap.size + 1, 1, none⟩ = some (.slice (some ad1) l1_1.length c1_1)) ∧ W.cell? (adA.add i) = some (.int .i64 r) ∧ W.cell? (ad1.add i) = some (.int .i64 d)) (by kernel_rfl) (by rw [hwq]; exact ⟨⟨y0, y1⟩, hx0, hx1⟩) (fun hHeld => ?_)
   rw [hwq]
   have hSt : (fun W : World => (W.cell? ⟨w.heap.size + 1, 0, none⟩ = some (.slice (some adA) l1_0.length c1_0) ∧ W.cell? ⟨w.heap.size + 1, 1, none⟩ = some (.slice (some ad1) l1_1.length c1_1)) ∧ W.cell? (adA.add i) = some (.int .i64 r) ∧ W.cell? (ad1.add i) = some (.int .i64 d)) wq := ⟨⟨y0, y1⟩, hx0, hx1⟩
   refine tkY 0 (some 49) rfl rfl (by kernel_rfl) (by kernel_rfl) (by kernel_rfl) (fun _ _ _ h => h) (by rfl) (v := ?tkv0) ?tky0 (by assumption) rfl ?tkr0
   case tky0 =>
    intro W' hSw
    try dsimp only at hSw
    go_simp
    first | done | with_reducible rfl
   simp only [Act.put, List.setIfInBounds_toArray, List.set_cons_zero, List.set_cons_succ]
   refine tkY 1 (some 50) rfl rfl (by kernel_rfl) (by kernel_rfl) (by kernel_rfl) (fun _ _ _ h => h) (by rfl) (v := ?tkv1) ?tky1 (by assumption) rfl ?tkr1
   case tky1 =>
    intro W' hSw
    try dsimp only at hSw
    go_simp
    first | done | with_reducible rfl
   simp only [Act.put, List.setIfInBounds_toArray, List.set_cons_zero, List.set_cons_succ]
   refine tkY 2 (some 51) rfl rfl (by kernel_rfl) (by kernel_rfl) (by kernel_rfl) (fun _ _ _ h => h) (by rfl) (v := ?tkv2) ?tky2 (by assumption) rfl ?tkr2
   case tky2 =>
    intro W' hSw
    try dsimp only at hSw
    go_simp
    first | done | with_reducible rfl
   simp only [Act.put, List.setIfInBounds_toArray, List.set_cons_zero, List.set_cons_succ]
   refine tkY 3 (some 52) rfl rfl (by kernel_rfl) (by kernel_rfl) (by kernel_rfl) (fun _ _ _ h => h) (by rfl) (v := ?tkv3) ?tky3 (by assumption) rfl ?tkr3
   case tky3 =>
    intro W' hSw
    try dsimp only at hSw
    go_simp
    first | done | with_reducible rfl
   simp only [Act.put, List.setIfInBounds_toArray, List.set_cons_zero, List.set_cons_succ]
   refine tkY 4 (some 53) rfl rfl (by kernel_rfl) (by kernel_rfl) (by kernel_rfl) (fun _ _ _ h => h) (by rfl) (v := ?tkv4) ?tky4 (by assumption) rfl ?tkr4
   case tky4 =>
    intro W' hSw
    try dsimp only at hSw
    go_simp
    first | done | with_reducible rfl
   simp only [Act.put, List.setIfInBounds_toArray, List.set_cons_zero, List.set_cons_succ]
   refine tkY 5 (some 54) rfl rfl (by kernel_rfl) (by kernel_rfl) (by kernel_rfl) (fun _ _ _ h => h) (by rfl) (v := ?tkv5) ?tky5 (by assumption) rfl ?tkr5
   case tky5 =>
    intro W' hSw
    try dsimp only at hSw
    go_simp
    first | done | with_reducible rfl
   simp only [Act.put, List.setIfInBounds_toArray, List.set_cons_zero, List.set_cons_succ]
   refine tkY 6 (some 55) rfl rfl (by kernel_rfl) (by kernel_rfl) (by kernel_rfl) (fun _ _ _ h => h) (by rfl) (v := ?tkv6) ?tky6 (by assumption) rfl ?tkr6
   case tky6 =>
    intro W' hSw
    try dsimp only at hSw
    go_simp
    first | done | with_reducible rfl
   simp only [Act.put, List.setIfInBounds_toArray, List.set_cons_zero, List.set_cons_succ]
   refine tkY 7 (some 56) rfl rfl (by kernel_rfl) (by kernel_rfl) (by kernel_rfl) (fun _ _ _ h => h) (by rfl) (v := ?tkv7) ?tky7 (by assumption) rfl ?tkr7
   case tky7 =>
    intro W' hSw
    try dsimp only at hSw
    go_simp
    first | done | with_reducible rfl
   simp only [Act.put, List.setIfInBounds_toArray, List.set_cons_zero, List.set_cons_succ]
   refine tkY 8 (some 57) rfl rfl (by kernel_rfl) (by kernel_rfl) (by kernel_rfl) (fun _ _ _ h => h) (by rfl) (v := ?tkv8) ?tky8 (by assumption) rfl ?tkr8
   case tky8 =>
    intro W' hSw
    try dsimp only at hSw
    go_simp
    first | done | with_reducible rfl
   simp only [Act.put, List.setIfInBounds_toArray, List.set_cons_zero, List.set_cons_succ]
   refine tkY 9 (some 58) rfl rfl (by kernel_rfl) (by kernel_rfl) (by kernel_rfl) (fun _ _ _ h => h) (by rfl) (v := ?tkv9) ?tky9 (by assumption) rfl ?tkr9
   case tky9 =>
    intro W' hSw
    try dsimp only at hSw
    go_simp
    first | done | with_reducible rfl
   simp only [Act.put, List.setIfInBounds_toArray, List.set_cons_zero, List.set_cons_succ]
   refine tkY 10 (some 9) rfl rfl (by kernel_rfl) (by kernel_rfl) (by kernel_rfl) (fun _ _ _ h => h) (by rfl) (v := ?tkv10) ?tky10 (by assumption) rfl ?tkr10
   case tky10 =>
    intro W' hSw
    try dsimp only at hSw
    go_simp
    first | done | with_reducible rfl
   simp only [Act.put, List.setIfInBounds_toArray, List.set_cons_zero, List.set_cons_succ]
   refine tkY 11 (some 10) rfl rfl (by kernel_rfl) (by kernel_rfl) (by kernel_rfl) (fun _ _ _ h => h) (by rfl) (v := ?tkv11) ?tky11 (by assumption) rfl ?tkr11
   case tky11 =>
    intro W' hSw
    try dsimp only at hSw
    go_simp
    first | done | with_reducible rfl
   simp only [Act.put, List.setIfInBounds_toArray, List.set_cons_zero, List.set_cons_succ]
   refine wpAnyH_done (by kernel_rfl) ?_ _
   clear hHeld hSt
   by_cases k0 : 0 ≤ r
   case neg =>
    have kb0 : decide (r ≥ 0) = false := decide_eq_false k0
    have HOK := Lib.hid (show okE_ low a0_2 a0_3 r d = false from by unfold okE_; simp only [decide_eq_false k0, Bool.and_true, Bool.true_and, Bool.and_false, Bool.false_and])
    by_cases hq : d = a0_3
    ·have hqb : (d == a0_3) = true := beq_iff_eq.mpr hq
     go_wp2_with fail
     go_roundw
     case rel => exact ⟨i + 1, t + 1, false, by go_num, rfl, by go_num, by omega, by omega, Lib.hid ⟨fun hh => absurd hh (by decide), fun _ => okL_bad low a0_2 a0_3 l1_0 l1_1 (i + 1) (by rw [okL_next low a0_2 a0_3 l1_0 l1_1 i hlt hlt1, HI.out.1, HRD.out.1, HRD.out.2, Bool.true_and]; exact HOK.out)⟩, hSq, hBq⟩
     case measure => simp [intOf]; omega
    ·have hqb : (d == a0_3) = false := beq_eq_false_iff_ne.mpr hq
     go_wp2_with fail
     go_roundw
     case rel => exact ⟨i + 1, t, false, by go_num, rfl, by go_num, by omega, by omega, Lib.hid ⟨fun hh => absurd hh (by decide), fun _ => okL_bad low a0_2 a0_3 l1_0 l1_1 (i + 1) (by rw [okL_next low a0_2 a0_3 l1_0 l1_1 i hlt hlt1, HI.out.1, HRD.out.1, HRD.out.2, Bool.true_and]; exact HOK.out)⟩, hSq, hBq⟩
     case measure => simp [intOf]; omega
   case pos =>
   have kb0 : decide (r ≥ 0) = true := decide_eq_true k0
   by_cases k1 : r ≤ a0_2
   case neg =>
    have kb1 : decide (r ≤ a0_2) = false := decide_eq_false k1
    have HOK := Lib.hid (show okE_ low a0_2 a0_3 r d = false from by unfold okE_; simp only [decide_eq_true k0, decide_eq_false k1, Bool.and_true, Bool.true_and, Bool.and_false, Bool.false_and])
    by_cases hq : d = a0_3
    ·have hqb : (d == a0_3) = true := beq_iff_eq.mpr hq
     go_wp2_with fail
     go_roundw
     case rel => exact ⟨i + 1, t + 1, false, by go_num, rfl, by go_num, by omega, by omega, Lib.hid ⟨fun hh => absurd hh (by decide), fun _ => okL_bad low a0_2 a0_3 l1_0 l1_1 (i + 1) (by rw [okL_next low a0_2 a0_3 l1_0 l1_1 i hlt hlt1, HI.out.1, HRD.out.1, HRD.out.2, Bool.true_and]; exact HOK.out)⟩, hSq, hBq⟩
     case measure => simp [intOf]; omega
    ·have hqb : (d == a0_3) = false := beq_eq_false_iff_ne.mpr hq
     go_wp2_with fail
     go_roundw
     case rel => exact ⟨i + 1, t, false, by go_num, rfl, by go_num, by omega, by omega, Lib.hid ⟨fun hh => absurd hh (by decide), fun _ => okL_bad low a0_2 a0_3 l1_0 l1_1 (i + 1) (by rw [okL_next low a0_2 a0_3 l1_0 l1_1 i hlt hlt1, HI.out.1, HRD.out.1, HRD.out.2, Bool.true_and]; exact HOK.out)⟩, hSq, hBq⟩
     case measure => simp [intOf]; omega
   case pos =>
   have kb1 : decide (r ≤ a0_2) = true := decide_eq_true k1
   by_cases k2 : r < (low.length : Int)
   case neg =>
    have kb2 : decide (r < (low.length : Int)) = false := decide_eq_false k2
    have HOK := Lib.hid (show okE_ low a0_2 a0_3 r d = false from by unfold okE_; simp only [decide_eq_true k0, decide_eq_true k1, decide_eq_false k2, Bool.and_true, Bool.true_and, Bool.and_false, Bool.false_and])
    by_cases hq : d = a0_3
    ·have hqb : (d == a0_3) = true := beq_iff_eq.mpr hq
     go_wp2_with fail
     go_roundw
     case rel => exact ⟨i + 1, t + 1, false, by go_num, rfl, by go_num, by omega, by omega, Lib.hid ⟨fun hh => absurd hh (by decide), fun _ => okL_bad low a0_2 a0_3 l1_0 l1_1 (i + 1) (by rw [okL_next low a0_2 a0_3 l1_0 l1_1 i hlt hlt1, HI.out.1, HRD.out.1, HRD.out.2, Bool.true_and]; exact HOK.out)⟩, hSq, hBq⟩
     case measure => simp [intOf]; omega
    ·have hqb : (d == a0_3) = false := beq_eq_false_iff_ne.mpr hq
     go_wp2_with fail
     go_roundw
     case rel => exact ⟨i + 1, t, false, by go_num, rfl, by go_num, by omega, by omega, Lib.hid ⟨fun hh => absurd hh (by decide), fun _ => okL_bad low a0_2 a0_3 l1_0 l1_1 (i + 1) (by rw [okL_next low a0_2 a0_3 l1_0 l1_1 i hlt hlt1, HI.out.1, HRD.out.1, HRD.out.2, Bool.true_and]; exact HOK.out)⟩, hSq, hBq⟩
     case measure => simp [intOf]; omega
   case pos =>
   have kb2 : decide (r < (low.length : Int)) = true := decide_eq_true k2
   obtain ⟨ad2, e2, hx2⟩ := Kd.at_int (Kd.C_below hL1 hBq) r k0 k2
   cases e2
   by_cases k3 : rd low r ≤ d
   case neg =>
    have kb3 : decide (d ≥ rd low r) = false := decide_eq_false k3
    have HOK := Lib.hid (show okE_ low a0_2 a0_3 r d = false from by unfold okE_; simp only [decide_eq_true k0, decide_eq_true k1, decide_eq_true k2, decide_eq_false k3, Bool.and_true, Bool.true_and, Bool.and_false, Bool.false_and])
    by_cases hq : d = a0_3
    ·have hqb : (d == a0_3) = true := beq_iff_eq.mpr hq
     go_wp2_with fail
     go_roundw
     case rel => exact ⟨i + 1, t + 1, false, by go_num, rfl, by go_num, by omega, by omega, Lib.hid ⟨fun hh => absurd hh (by decide), fun _ => okL_bad low a0_2 a0_3 l1_0 l1_1 (i + 1) (by rw [okL_next low a0_2 a0_3 l1_0 l1_1 i hlt hlt1, HI.out.1, HRD.out.1, HRD.out.2, Bool.true_and]; exact HOK.out)⟩, hSq, hBq⟩
     case measure => simp [intOf]; omega
    ·have hqb : (d == a0_3) = false := beq_eq_false_iff_ne.mpr hq
     go_wp2_with fail
     go_roundw
     case rel => exact ⟨i + 1, t, false, by go_num, rfl, by go_num, by omega, by omega, Lib.hid ⟨fun hh => absurd hh (by decide), fun _ => okL_bad low a0_2 a0_3 l1_0 l1_1 (i + 1) (by rw [okL_next low a0_2 a0_3 l1_0 l1_1 i hlt hlt1, HI.out.1, HRD.out.1, HRD.out.2, Bool.true_and]; exact HOK.out)⟩, hSq, hBq⟩
     case measure => simp [intOf]; omega
   case pos =>
   have kb3 : decide (d ≥ rd low r) = true := decide_eq_true k3
   by_cases k4 : d ≤ a0_3
   case neg =>
    have kb4 : decide (d ≤ a0_3) = false := decide_eq_false k4
    have HOK := Lib.hid (show okE_ low a0_2 a0_3 r d = false from by unfold okE_; simp only [decide_eq_true k0, decide_eq_true k1, decide_eq_true k2, decide_eq_true k3, decide_eq_false k4, Bool.and_true, Bool.true_and, Bool.and_false, Bool.false_and])
    by_cases hq : d = a0_3
    ·exact absurd (Int.le_of_eq hq) k4
    ·have hqb : (d == a0_3) = false := beq_eq_false_iff_ne.mpr hq
     go_wp2_with fail
     go_roundw
     case rel => exact ⟨i + 1, t, false, by go_num, rfl, by go_num, by omega, by omega, Lib.hid ⟨fun hh => absurd hh (by decide), fun _ => okL_bad low a0_2 a0_3 l1_0 l1_1 (i + 1) (by rw [okL_next low a0_2 a0_3 l1_0 l1_1 i hlt hlt1, HI.out.1, HRD.out.1, HRD.out.2, Bool.true_and]; exact HOK.out)⟩, hSq, hBq⟩
     case measure => simp [intOf]; omega
   case pos =>
   have kb4 : decide (d ≤ a0_3) = true := decide_eq_true k4
   have HOK := Lib.hid (show okE_ low a0_2 a0_3 r d = true from by unfold okE_; simp only [decide_eq_true k0, decide_eq_true k1, decide_eq_true k2, decide_eq_true k3, decide_eq_true k4, Bool.and_true, Bool.true_and, Bool.and_false, Bool.false_and])
   by_cases hq : d = a0_3
   ·have hqb : (d == a0_3) = true := beq_iff_eq.mpr hq
    go_wp2_with fail
    go_roundw
    case rel => exact ⟨i + 1, t + 1, true, by go_num, rfl, by go_num, by omega, by omega, Lib.hid ⟨fun _ => ⟨by rw [okL_next low a0_2 a0_3 l1_0 l1_1 i hlt hlt1, HI.out.1, HRD.out.1, HRD.out.2, Bool.true_and]; exact HOK.out, by rw [cnt_next a0_3 l1_1 i hlt1, HRD.out.2, if_pos hq, HI.out.2]⟩, fun hh => absurd hh (by decide)⟩, hSq, hBq⟩
    case measure => simp [intOf]; omega
   ·have hqb : (d == a0_3) = false := beq_eq_false_iff_ne.mpr hq
    go_wp2_with fail
    go_roundw
    case rel => exact ⟨i + 1, t, true, by go_num, rfl, by go_num, by omega, by omega, Lib.hid ⟨fun _ => ⟨by rw [okL_next low a0_2 a0_3 l1_0 l1_1 i hlt hlt1, HI.out.1, HRD.out.1, HRD.out.2, Bool.true_and]; exact HOK.out, by rw [cnt_next a0_3 l1_1 i hlt1, HRD.out.2, if_neg hq, HI.out.2, Nat.add_zero]⟩, fun hh => absurd hh (by decide)⟩, hSq, hBq⟩
    case measure => simp [intOf]; omega


end Go.Proofs.Yteokhlpleimnbaa.H
end
