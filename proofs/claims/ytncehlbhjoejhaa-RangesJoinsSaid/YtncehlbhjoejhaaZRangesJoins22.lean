/- Texts of the claim, packed: H52, H61, H62. -/
import Derived.BigRegion
import Derived.Deep.Cut
import Derived.Deep.CutBlock
import Derived.Deep.DeepCutAuto
import Derived.Deep.RegionHeld3
import Derived.Deep.RegionWith
import Derived.Lib.Hide
import Derived.Test.YtncehlbhjoejhaaZRangesJoins4
import Derived.Test.YtncehlbhjoejhaaZRangesJoins16
import Derived.Test.YtncehlbhjoejhaaZRangesJoins17
import Derived.Test.YtncehlbhjoejhaaZRangesJoins18
import Derived.Test.YtncehlbhjoejhaaZRangesJoins21
section
-- Laid by this session's hprint.py, out of the kit's print.py and texts of the session. Not trusted: Lean checks it.
namespace Go.Proofs.Ytncehlbhjoejhaa.H
open Go.RowKit Go.Proofs.YtncehlbhjoejhaaW.PrintWords Go.Proofs.YtncehlbhjoejhaaW.PrintLast Go.Proofs.YtncehlbhjoejhaaW.PrintMore
attribute [local go_sem] max2_int min2_int max_two min_two max_three min_three max_four min_four   -- for this text's walks alone
set_option linter.unusedVariables false
set_option linter.unusedSimpArgs false

-- OVPART Derived.Lib.Hide Derived.Deep.RegionHeld3 Derived.BigRegion Derived.Deep.RegionWith Derived.Deep.Cut
def marquetryref22_Check.g (k : Nat) (ak ai : Int) (at_ : ByteArray) (bk bi : Int) (bt_ : ByteArray) : Option Int :=
 (marquetryref22_zero.f k ak ai at_ true).bind fun x => if (!(x.1 == ak) || (!(x.2.1 == ai) || (!(x.2.2.toList == at_.toList)))) = true then some 320 else
  (marquetryref22_zero.f k bk bi bt_ false).bind fun y => if (!(y.1 == bk) || (!(y.2.1 == bi) || (!(y.2.2.toList == bt_.toList)))) = true then some 320 else some 0
def marquetryref22_Check.e (k : Nat) (t0 t1 : Int) (least most : ByteArray) : Option Int :=
 (marquetryref22_Read.f k t0 t1 least).bind fun a => (marquetryref22_Read.f k t0 t1 most).bind fun b => (marquetryref09_Compare.f k a.1 a.2.1 a.2.2.1 b.1 b.2.1 b.2.2.1).bind fun c =>
  if a.2.2.2 ≠ 0 then some 320 else if b.2.2.2 ≠ 0 then some 320 else if c.2 = false then some 320 else if c.1 > 0 then some 320 else marquetryref22_Check.g k a.1 a.2.1 a.2.2.1 b.1 b.2.1 b.2.2.1
def marquetryref22_Check.f (k : Nat) (t0 t1 n : Int) (has : Bool) (least most : ByteArray) : Option Int :=
 (marquetryref09_Check.f k t0 t1).bind fun ok => if ok = false then some 2 else if n < 0 then some 320 else if n > 65536 then some 320
  else if has = false then (if least.toList = [] then (if most.toList = [] then some 0 else some 320) else some 320) else marquetryref22_Check.e k t0 t1 least most
theorem marquetryref22_Check.mono : ∀ a0 a1 a2 a3 a4 a5 k, LeO (marquetryref22_Check.f k a0 a1 a2 a3 a4 a5) (marquetryref22_Check.f (k + 1) a0 a1 a2 a3 a4 a5) := by
 intro a0 a1 a2 a3 a4 a5 k
 unfold marquetryref22_Check.f marquetryref22_Check.e marquetryref22_Check.g
 repeat' first
  | (with_reducible exact LeO.refl _)
  | (with_reducible exact marquetryref09_Check.mono _ _ _)
  | (with_reducible exact marquetryref22_Read.mono _ _ _ _)
  | (with_reducible exact marquetryref09_Compare.mono _ _ _ _ _ _ _)
  | (with_reducible exact marquetryref22_zero.mono _ _ _ _ _)
  | (with_reducible refine LeO.ite ?_ ?_)
  | (with_reducible refine LeO.bind ?_ (fun _ => ?_))
  | exact marquetryref09_Check.mono _ _ _
  | exact marquetryref22_Read.mono _ _ _ _
  | exact marquetryref09_Compare.mono _ _ _ _ _ _ _
  | exact marquetryref22_zero.mono _ _ _ _ _
  | refine LeO.ite ?_ ?_
  | refine LeO.bind ?_ (fun _ => ?_)
structure RkC (w W : World) (t0 t1 n : Int) (has : Bool) (least most : ByteArray) : Prop where
 b0 : W.heap[w.heap.size]? = some (.cells #[.int .i64 t0, .int .i64 t1] 24 (0, 0))
 b1 : W.heap[w.heap.size + 1]? = some (.cells #[.int .i64 n, .bool has, .string least, .string most] 31 (0, 0))
 below : Below w.heap.size w W
theorem RkC.next {w W W' : World} {t0 t1 n : Int} {has : Bool} {least most : ByteArray} (h : RkC w W t0 t1 n has least most) (hb : Below W.heap.size W W') : RkC w W' t0 t1 n has least most := ⟨blk_below h.b0 hb, blk_below h.b1 hb, below_step h.below hb⟩
theorem RkC.start (w : World) (t0 t1 n : Int) (has : Bool) (least most : ByteArray) : RkC w ((w.alloc (.cells #[.int .i64 t0, .int .i64 t1] 24)).alloc (.cells #[.int .i64 n, .bool has, .string least, .string most] 31)) t0 t1 n has least most := by
 refine ⟨blk_alloc (blk_new w _) _, ?_, below_alloc (below_alloc (Below.refl _ _) _) _⟩
 have h := blk_new (w.alloc (.cells #[.int .i64 t0, .int .i64 t1] 24)) (.cells #[.int .i64 n, .bool has, .string least, .string most] 31)
 rw [World.size_alloc] at h
 exact h
theorem RkC.cells {w W : World} {t0 t1 n : Int} {has : Bool} {least most : ByteArray} (h : RkC w W t0 t1 n has least most) : W.cell? ⟨w.heap.size, 0, none⟩ = some (.int .i64 t0) ∧ W.cell? ⟨w.heap.size, 1, none⟩ = some (.int .i64 t1) ∧
  W.cell? ⟨w.heap.size + 1, 0, none⟩ = some (.int .i64 n) ∧ W.cell? ⟨w.heap.size + 1, 1, none⟩ = some (.bool has) ∧ W.cell? ⟨w.heap.size + 1, 2, none⟩ = some (.string least) ∧ W.cell? ⟨w.heap.size + 1, 3, none⟩ = some (.string most) :=
 ⟨blk_cell h.b0 0, blk_cell h.b0 1, blk_cell h.b1 0, blk_cell h.b1 1, blk_cell h.b1 2, blk_cell h.b1 3⟩
theorem RkC.far {w W : World} {B : Nat} {t0 t1 n : Int} {has : Bool} {least most : ByteArray} (h : RkC w W t0 t1 n has least most) (hB : w.heap.size + 1 < B) (k : Nat) (v : Value) : RkC w (W.setCell ⟨B, k, none⟩ v) t0 t1 n has least most :=
 ⟨blk_far h.b0 (p := ⟨B, k, none⟩) (by show w.heap.size ≠ B; omega) v, blk_far h.b1 (p := ⟨B, k, none⟩) (by show w.heap.size + 1 ≠ B; omega) v, h.below.setCell (p := ⟨B, k, none⟩) (by show w.heap.size ≤ B; omega) v⟩
structure RkA (w W : World) (B : Nat) (t0 t1 n : Int) (has : Bool) (least most : ByteArray) (k i : Int) (t : ByteArray) : Prop where
 rc : RkC w W t0 t1 n has least most
 lt : w.heap.size + 1 < B
 ka : W.heap[B]? = some (.cells #[.int .i64 k, .int .i64 i, .string t] 29 (0, 0))
theorem RkA.next {w W W' : World} {t0 t1 n : Int} {has : Bool} {least most : ByteArray} {B : Nat} {k i : Int} {t : ByteArray} (h : RkA w W B t0 t1 n has least most k i t) (hb : Below W.heap.size W W') : RkA w W' B t0 t1 n has least most k i t := ⟨h.rc.next hb, h.lt, blk_below h.ka hb⟩
theorem RkA.start {w W : World} {t0 t1 n : Int} {has : Bool} {least most : ByteArray} (h : RkC w W t0 t1 n has least most) (k i : Int) (t : ByteArray) : RkA w (W.alloc (.cells #[.int .i64 k, .int .i64 i, .string t] 29)) W.heap.size t0 t1 n has least most k i t :=
 ⟨h.next (below_alloc (Below.refl _ _) _), blk_lt h.b1, blk_new W _⟩
theorem RkA.far {w W : World} {B B' : Nat} {t0 t1 n : Int} {has : Bool} {least most : ByteArray} {k i : Int} {t : ByteArray} (h : RkA w W B t0 t1 n has least most k i t) (hB : B < B') (j : Nat) (v : Value) : RkA w (W.setCell ⟨B', j, none⟩ v) B t0 t1 n has least most k i t :=
 ⟨h.rc.far (Nat.lt_trans h.lt hB) j v, h.lt, blk_far h.ka (p := ⟨B', j, none⟩) (by show B ≠ B'; omega) v⟩
structure RkB (w W : World) (B5 B7 : Nat) (t0 t1 n : Int) (has : Bool) (least most : ByteArray) (ak ai : Int) (at_ : ByteArray) (bk bi : Int) (bt_ : ByteArray) : Prop where
 ra : RkA w W B5 t0 t1 n has least most ak ai at_
 kb : W.heap[B7]? = some (.cells #[.int .i64 bk, .int .i64 bi, .string bt_] 29 (0, 0))
theorem RkB.next {w W W' : World} {t0 t1 n : Int} {has : Bool} {least most : ByteArray} {B5 B7 : Nat} {ak ai bk bi : Int} {at_ bt_ : ByteArray} (h : RkB w W B5 B7 t0 t1 n has least most ak ai at_ bk bi bt_) (hb : Below W.heap.size W W') : RkB w W' B5 B7 t0 t1 n has least most ak ai at_ bk bi bt_ := ⟨h.ra.next hb, blk_below h.kb hb⟩
theorem RkB.drew {w W : World} {t0 t1 n : Int} {has : Bool} {least most : ByteArray} {B5 B7 : Nat} {ak ai bk bi : Int} {at_ bt_ : ByteArray} (h : RkB w W B5 B7 t0 t1 n has least most ak ai at_ bk bi bt_) : RkB w W.drew B5 B7 t0 t1 n has least most ak ai at_ bk bi bt_ := ⟨⟨⟨h.ra.rc.b0, h.ra.rc.b1, h.ra.rc.below.drew⟩, h.ra.lt, h.ra.ka⟩, h.kb⟩
theorem RkB.start {w W : World} {t0 t1 n : Int} {has : Bool} {least most : ByteArray} {B5 : Nat} {ak ai : Int} {at_ : ByteArray} (h : RkA w W B5 t0 t1 n has least most ak ai at_) (k i : Int) (t : ByteArray) : RkB w (W.alloc (.cells #[.int .i64 k, .int .i64 i, .string t] 29)) B5 W.heap.size t0 t1 n has least most ak ai at_ k i t :=
 ⟨h.next (below_alloc (Below.refl _ _) _), blk_new W _⟩
theorem RkB.held {w W : World} {t0 t1 n : Int} {has : Bool} {least most : ByteArray} {B5 B7 : Nat} {ak ai bk bi : Int} {at_ bt_ : ByteArray} (h : RkB w W B5 B7 t0 t1 n has least most ak ai at_ bk bi bt_) :
  (W.cell? ⟨B5, 0, none⟩ = some (.int .i64 ak) ∧ W.cell? ⟨B5, 1, none⟩ = some (.int .i64 ai) ∧ W.cell? ⟨B5, 2, none⟩ = some (.string at_)) ∧ (W.cell? ⟨B7, 0, none⟩ = some (.int .i64 bk) ∧ W.cell? ⟨B7, 1, none⟩ = some (.int .i64 bi) ∧ W.cell? ⟨B7, 2, none⟩ = some (.string bt_)) :=
 ⟨⟨blk_cell h.ra.ka 0, blk_cell h.ra.ka 1, blk_cell h.ra.ka 2⟩, ⟨blk_cell h.kb 0, blk_cell h.kb 1, blk_cell h.kb 2⟩⟩
attribute [local go_sem high] eqA29
set_option maxHeartbeats 8000000 in
set_option maxRecDepth 100000 in
theorem marquetryref22_Check.calls (k : Nat) (a0_0 : Int) (a0_1 : Int) (a1_0 : Int) (a1_1 : Bool) (a1_2 : ByteArray) (a1_3 : ByteArray) (r : Int) (w : World) (h : marquetryref22_Check.f k a0_0 a0_1 a1_0 a1_1 a1_2 a1_3 = some r) :
  Calls Try.prog 17 #[.agg #[.int .i64 a0_0, .int .i64 a0_1], .agg #[.int .i64 a1_0, .bool a1_1, .string a1_2, .string a1_3]] w fun e w' => e = .returned (.int .i64 r) ∧ Below w.heap.size w w' := by
 unfold marquetryref22_Check.f at h
 obtain ⟨okc, hck, h1⟩ := Option.bind_eq_some_iff.mp h
 clear h
 have hS := RkC.start w a0_0 a0_1 a1_0 a1_1 a1_2 a1_3
 obtain ⟨W0, hW0⟩ : ∃ W0, W0 = (w.alloc (.cells #[.int .i64 a0_0, .int .i64 a0_1] 24)).alloc (.cells #[.int .i64 a1_0, .bool a1_1, .string a1_2, .string a1_3] 31) := ⟨_, rfl⟩
 rw [← hW0] at hS
 have HW0 := Lib.hid hW0
 have HCK := Lib.hid hck
 have H := Lib.hid h1
 clear hW0 hck h1
 go_enter Try.func17, Try.ntmps17
 go_wp2_with fail
 rw [← HW0.out]
 refine (marquetryref09_Check.calls k a0_0 a0_1 _ W0 HCK.out).mono ?_
 rintro e w1 ⟨rfl, hB1⟩
 have h1 := hS.next hB1
 obtain ⟨c00, c01, c10, c11, c12, c13⟩ := h1.cells
 clear hB1 hS HW0 HCK
 cases okc with
 | false =>
  have hr := H.out
  simp only [if_true, Option.some.injEq] at hr
  subst hr
  go_wp2_with fail
  go_ret
  exact ⟨rfl, h1.below⟩
 | true =>
  by_cases hn0 : a1_0 < 0
  ·have hr := H.out
   rw [if_neg (by decide), if_pos hn0, Option.some.injEq] at hr
   subst hr
   have hnb := decide_eq_true hn0
   clear hn0
   go_wp2_with fail
   go_ret
   exact ⟨rfl, h1.below⟩
  by_cases hn6 : a1_0 > 65536
  ·have hr := H.out
   rw [if_neg (by decide), if_neg hn0, if_pos hn6, Option.some.injEq] at hr
   subst hr
   have hnb := decide_eq_false hn0
   have hnc := decide_eq_true hn6
   clear hn0 hn6
   go_wp2_with fail
   go_ret
   exact ⟨rfl, h1.below⟩
  have hr := H.out
  rw [if_neg (by decide), if_neg hn0, if_neg hn6] at hr
  have HR := Lib.hid hr
  have hnb := decide_eq_false hn0
  have hnc := decide_eq_false hn6
  clear hn0 hn6 hr H
  cases a1_1 with
  | false =>
   have hr := HR.out
   rw [if_pos rfl] at hr
   by_cases hl : a1_2.toList = []
   ·rw [if_pos hl] at hr
    by_cases hm : a1_3.toList = []
    ·rw [if_pos hm, Option.some.injEq] at hr
     subst hr
     have hlb : (a1_2.toList != ([] : List UInt8)) = false := by simp [hl]
     have hl9 : a1_2.toList.isEmpty = true := by simp [hl]
     have hmb : (a1_3.toList != ([] : List UInt8)) = false := by simp [hm]
     have hm9 : a1_3.toList.isEmpty = true := by simp [hm]
     go_wp2_with fail
     go_ret
     exact ⟨rfl, h1.below⟩
    ·rw [if_neg hm, Option.some.injEq] at hr
     subst hr
     have hlb : (a1_2.toList != ([] : List UInt8)) = false := by simp [hl]
     have hl9 : a1_2.toList.isEmpty = true := by simp [hl]
     have hmb : (a1_3.toList != ([] : List UInt8)) = true := by simp [hm]
     have hm9 : a1_3.toList.isEmpty = false := by simpa using hm
     go_wp2_with fail
     go_ret
     exact ⟨rfl, h1.below⟩
   ·rw [if_neg hl, Option.some.injEq] at hr
    subst hr
    have hlb : (a1_2.toList != ([] : List UInt8)) = true := by simp [hl]
    have hl9 : a1_2.toList.isEmpty = false := by simpa using hl
    go_wp2_with fail
    go_ret
    exact ⟨rfl, h1.below⟩
  | true =>
   have hr := HR.out
   rw [if_neg (by decide)] at hr
   unfold marquetryref22_Check.e at hr
   obtain ⟨⟨ak, ai, at_, ae⟩, hra, hr1⟩ := Option.bind_eq_some_iff.mp hr
   clear hr
   obtain ⟨⟨bk, bi, bt_, be⟩, hrb, hr2⟩ := Option.bind_eq_some_iff.mp hr1
   clear hr1
   obtain ⟨⟨c, ok⟩, hrc, hr3⟩ := Option.bind_eq_some_iff.mp hr2
   clear hr2
   have HRA := Lib.hid hra
   have HRB := Lib.hid hrb
   have HRC := Lib.hid hrc
   have HE := Lib.hid hr3
   clear hra hrb hrc hr3 HR
   go_wp2_with fail
   refine (marquetryref22_Read.calls k a0_0 a0_1 a1_2 _ _ _ _ _ HRA.out).mono ?_
   rintro e w2 ⟨rfl, hB2⟩
   have h2 := h1.next hB2
   have hlt2 := blk_lt h2.b1
   clear c00 c01 c10 c11 c12 c13
   obtain ⟨c00, c01, c10, c11, c12, c13⟩ := h2.cells
   have h3 := RkA.start h2 ak ai at_
   clear hB2 h1
   go_upto_region 10 with (fail)
   generalize hWA : w2.alloc (.cells #[.int .i64 ak, .int .i64 ai, .string at_] 29) = WA at *
   generalize hB5 : w2.heap.size = B5 at *
   clear hWA c00 c01 c10 c11 c12 c13 hlt2 h2 hB5
   obtain ⟨c00, c01, c10, c11, c12, c13⟩ := h3.rc.cells
   go_wp2_with fail
   refine (marquetryref22_Read.calls k a0_0 a0_1 a1_3 _ _ _ _ _ HRB.out).mono ?_
   rintro e w3 ⟨rfl, hB3⟩
   have h4 := RkB.start (h3.next hB3) bk bi bt_
   have hlt3 := blk_lt (h3.next hB3).ka
   clear hB3 h3 c00 c01 c10 c11 c12 c13
   go_upto_region 11 with (fail)
   generalize hWB : w3.alloc (.cells #[.int .i64 bk, .int .i64 bi, .string bt_] 29) = WB at *
   generalize hB7 : w3.heap.size = B7 at *
   clear hWB hlt3 hB7
   obtain ⟨⟨d50, d51, d52⟩, ⟨d70, d71, d72⟩⟩ := h4.held
   go_wp2_with fail
   refine (marquetryref09_Compare.calls k _ _ _ _ _ _ c ok _ HRC.out).mono ?_
   rintro e w5 ⟨rfl, hB5'⟩
   have h5 := h4.next hB5'
   clear hB5' h4 d50 d51 d52 d70 d71 d72 HRA HRB HRC
   obtain ⟨⟨d50, d51, d52⟩, ⟨d70, d71, d72⟩⟩ := h5.held
   go_wp2_with fail
   by_cases hae : ae = 0
   case neg =>
    have hr := HE.out
    rw [if_pos hae, Option.some.injEq] at hr
    subst hr
    have hb : (ae != 0) = true := bne_iff_ne.mpr hae
    clear hae
    go_region
    go_wp2_with fail
    go_ret
    exact ⟨rfl, h5.drew.ra.rc.below⟩
   subst hae
   by_cases hbe : be = 0
   case neg =>
    have hr := HE.out
    rw [if_neg (by decide), if_pos hbe, Option.some.injEq] at hr
    subst hr
    have hb : (be != 0) = true := bne_iff_ne.mpr hbe
    clear hbe
    go_region
    go_wp2_with fail
    go_ret
    exact ⟨rfl, h5.drew.ra.rc.below⟩
   subst hbe
   cases ok with
   | false =>
    have hr := HE.out
    rw [if_neg (by decide), if_neg (by decide), if_pos rfl, Option.some.injEq] at hr
    subst hr
    go_region
    go_wp2_with fail
    go_ret
    exact ⟨rfl, h5.drew.ra.rc.below⟩
   | true =>
    by_cases hc : c > 0
    ·have hr := HE.out
     rw [if_neg (by decide), if_neg (by decide), if_neg (by decide), if_pos hc, Option.some.injEq] at hr
     subst hr
     have hb := decide_eq_true hc
     clear hc
     go_region
     go_wp2_with fail
     go_ret
     exact ⟨rfl, h5.drew.ra.rc.below⟩
    have hr := HE.out
    rw [if_neg (by decide), if_neg (by decide), if_neg (by decide), if_neg hc] at hr
    have hcb := decide_eq_false hc
    clear hc HE
    unfold marquetryref22_Check.g at hr
    obtain ⟨⟨zk, zi, zt⟩, hza, hr1⟩ := Option.bind_eq_some_iff.mp hr
    clear hr
    have HZA := Lib.hid hza
    clear hza
    cases hzb : (!(zk == ak) || (!(zi == ai) || (!(zt.toList == at_.toList)))) with
    | true =>
     simp only at hr1
     rw [if_pos hzb, Option.some.injEq] at hr1
     subst hr1
     clear d50 d51 d52 d70 d71 d72
     refine wp_region_held_drew (S := (fun W => (W.cell? ⟨B5, 0, none⟩ = some (.int .i64 ak) ∧ W.cell? ⟨B5, 1, none⟩ = some (.int .i64 ai) ∧ W.cell? ⟨B5, 2, none⟩ = some (.string at_)) ∧ (W.cell? ⟨B7, 0, none⟩ = some (.int .i64 bk) ∧ W.cell? ⟨B7, 1, none⟩ = some (.int .i64 bi) ∧ W.cell? ⟨B7, 2, none⟩ = some (.string bt_)))) (by kernel_rfl) h5.drew.held (fun hHeld => ?_)
     refine tkY 0 (some 53) rfl rfl (by kernel_rfl) (by kernel_rfl) (by kernel_rfl) (fun _ _ _ h => h) (by rfl) (v := ?tkve0) ?tkye0 (by assumption) rfl ?tkre0
     case tkye0 =>
      intro W' hSw
      try dsimp only at hSw
      go_simp
      first | done | with_reducible rfl
     simp only [Act.put, List.setIfInBounds_toArray, List.set_cons_zero, List.set_cons_succ]
     refine tkY 1 (some 54) rfl rfl (by kernel_rfl) (by kernel_rfl) (by kernel_rfl) (fun _ _ _ h => h) (by rfl) (v := ?tkve1) ?tkye1 (by assumption) rfl ?tkre1
     case tkye1 =>
      intro W' hSw
      try dsimp only at hSw
      go_simp
      first | done | with_reducible rfl
     simp only [Act.put, List.setIfInBounds_toArray, List.set_cons_zero, List.set_cons_succ]
     refine tkY 2 (some 55) rfl rfl (by kernel_rfl) (by kernel_rfl) (by kernel_rfl) (fun _ _ _ h => h) (by rfl) (v := ?tkve2) ?tkye2 (by assumption) rfl ?tkre2
     case tkye2 =>
      intro W' hSw
      try dsimp only at hSw
      go_simp
      first | done | with_reducible rfl
     simp only [Act.put, List.setIfInBounds_toArray, List.set_cons_zero, List.set_cons_succ]
     refine tkY 3 (some 56) rfl rfl (by kernel_rfl) (by kernel_rfl) (by kernel_rfl) (fun _ _ _ h => h) (by rfl) (v := ?tkve3) ?tkye3 (by assumption) rfl ?tkre3
     case tkye3 =>
      intro W' hSw
      try dsimp only at hSw
      go_simp
      first | done | with_reducible rfl
     simp only [Act.put, List.setIfInBounds_toArray, List.set_cons_zero, List.set_cons_succ]
     refine tkY 4 (some 57) rfl rfl (by kernel_rfl) (by kernel_rfl) (by kernel_rfl) (fun _ _ _ h => h) (by rfl) (v := ?tkve4) ?tkye4 (by assumption) rfl ?tkre4
     case tkye4 =>
      intro W' hSw
      try dsimp only at hSw
      go_simp
      first | done | with_reducible rfl
     simp only [Act.put, List.setIfInBounds_toArray, List.set_cons_zero, List.set_cons_succ]
     refine tkY 5 (some 58) rfl rfl (by kernel_rfl) (by kernel_rfl) (by kernel_rfl) (fun _ _ _ h => h) (by rfl) (v := ?tkve5) ?tkye5 (by assumption) rfl ?tkre5
     case tkye5 =>
      intro W' hSw
      try dsimp only at hSw
      go_simp
      first | done | with_reducible rfl
     simp only [Act.put, List.setIfInBounds_toArray, List.set_cons_zero, List.set_cons_succ]
     refine tkY 6 (some 59) rfl rfl (by kernel_rfl) (by kernel_rfl) (by kernel_rfl) (fun _ _ _ h => h) (by rfl) (v := ?tkve6) ?tkye6 (by assumption) rfl ?tkre6
     case tkye6 =>
      intro W' hSw
      try dsimp only at hSw
      go_simp
      first | done | with_reducible rfl
     simp only [Act.put, List.setIfInBounds_toArray, List.set_cons_zero, List.set_cons_succ]
     refine tkY 7 (some 60) rfl rfl (by kernel_rfl) (by kernel_rfl) (by kernel_rfl) (fun _ _ _ h => h) (by rfl) (v := ?tkve7) ?tkye7 (by assumption) rfl ?tkre7
     case tkye7 =>
      intro W' hSw
      try dsimp only at hSw
      go_simp
      first | done | with_reducible rfl
     simp only [Act.put, List.setIfInBounds_toArray, List.set_cons_zero, List.set_cons_succ]
     refine tkY 8 (some 61) rfl rfl (by kernel_rfl) (by kernel_rfl) (by kernel_rfl) (fun _ _ _ h => h) (by rfl) (v := ?tkve8) ?tkye8 (by assumption) rfl ?tkre8
     case tkye8 =>
      intro W' hSw
      try dsimp only at hSw
      go_simp
      first | done | with_reducible rfl
     simp only [Act.put, List.setIfInBounds_toArray, List.set_cons_zero, List.set_cons_succ]
     refine tkY 9 (some 62) rfl rfl (by kernel_rfl) (by kernel_rfl) (by kernel_rfl) (fun _ _ _ h => h) (by rfl) (v := ?tkve9) ?tkye9 (by assumption) rfl ?tkre9
     case tkye9 =>
      intro W' hSw
      try dsimp only at hSw
      go_simp
      first | done | with_reducible rfl
     simp only [Act.put, List.setIfInBounds_toArray, List.set_cons_zero, List.set_cons_succ]
     refine tkY 10 (some 63) rfl rfl (by kernel_rfl) (by kernel_rfl) (by kernel_rfl) (fun _ _ _ h => h) (by rfl) (v := ?tkve10) ?tkye10 (by assumption) rfl ?tkre10
     case tkye10 =>
      intro W' hSw
      try dsimp only at hSw
      go_simp
      first | done | with_reducible rfl
     simp only [Act.put, List.setIfInBounds_toArray, List.set_cons_zero, List.set_cons_succ]
     refine tkY 11 (some 64) rfl rfl (by kernel_rfl) (by kernel_rfl) (by kernel_rfl) (fun _ _ _ h => h) (by rfl) (v := ?tkve11) ?tkye11 (by assumption) rfl ?tkre11
     case tkye11 =>
      intro W' hSw
      try dsimp only at hSw
      go_simp
      first | done | with_reducible rfl
     simp only [Act.put, List.setIfInBounds_toArray, List.set_cons_zero, List.set_cons_succ]
     refine tkY 12 (some 65) rfl rfl (by kernel_rfl) (by kernel_rfl) (by kernel_rfl) (fun _ _ _ h => h) (by rfl) (v := ?tkve12) ?tkye12 (by assumption) rfl ?tkre12
     case tkye12 =>
      intro W' hSw
      try dsimp only at hSw
      go_simp
      first | done | with_reducible rfl
     simp only [Act.put, List.setIfInBounds_toArray, List.set_cons_zero, List.set_cons_succ]
     refine tkY 13 (some 66) rfl rfl (by kernel_rfl) (by kernel_rfl) (by kernel_rfl) (fun _ _ _ h => h) (by rfl) (v := ?tkve13) ?tkye13 (by assumption) rfl ?tkre13
     case tkye13 =>
      intro W' hSw
      try dsimp only at hSw
      go_simp
      first | done | with_reducible rfl
     simp only [Act.put, List.setIfInBounds_toArray, List.set_cons_zero, List.set_cons_succ]
     refine tkY 14 (some 67) rfl rfl (by kernel_rfl) (by kernel_rfl) (by kernel_rfl) (fun _ _ _ h => h) (by rfl) (v := ?tkve14) ?tkye14 (by assumption) rfl ?tkre14
     case tkye14 =>
      intro W' hSw
      try dsimp only at hSw
      go_simp
      first | done | with_reducible rfl
     simp only [Act.put, List.setIfInBounds_toArray, List.set_cons_zero, List.set_cons_succ]
     refine tkY 15 (some 68) rfl rfl (by kernel_rfl) (by kernel_rfl) (by kernel_rfl) (fun _ _ _ h => h) (by rfl) (v := ?tkve15) ?tkye15 (by assumption) rfl ?tkre15
     case tkye15 =>
      intro W' hSw
      try dsimp only at hSw
      go_simp
      first | done | with_reducible rfl
     simp only [Act.put, List.setIfInBounds_toArray, List.set_cons_zero, List.set_cons_succ]
     refine tkY 17 (some 70) rfl rfl (by kernel_rfl) (by kernel_rfl) (by kernel_rfl) (fun _ _ _ h => h) (by rfl) (v := ?tkve17) ?tkye17 (by assumption) rfl ?tkre17
     case tkye17 =>
      intro W' hSw
      try dsimp only at hSw
      go_simp
      first | done | with_reducible rfl
     simp only [Act.put, List.setIfInBounds_toArray, List.set_cons_zero, List.set_cons_succ]
     refine wpAnyH_ready (rs := [16]) (by kernel_rfl) (by simp) (AllReadyH.cons (at_drop rfl) (fun K hK => ?_) AllReadyH.nil)
     go_simp
     (go_at_call_of 44 (Value.bool true); refine (marquetryref22_zero.calls k ak ai at_ true _ _ _ _ HZA.out).mono ?_; rintro e w6 ⟨rfl, hB6⟩; have h6 := h5.drew.next hB6)
     refine hK.out _ _ h6.held (fun hHeld => ?_)
     clear hK K
     try simp only [Act.put, List.setIfInBounds_toArray, List.set_cons_zero, List.set_cons_succ]
     refine tkY 18 (some 71) rfl rfl (by kernel_rfl) (by kernel_rfl) (by kernel_rfl) (fun _ _ _ h => h) (by rfl) (v := ?tkve18) ?tkye18 (by assumption) rfl ?tkre18
     case tkye18 =>
      intro W' hSw
      try dsimp only at hSw
      go_simp
      first | done | with_reducible rfl
     simp only [Act.put, List.setIfInBounds_toArray, List.set_cons_zero, List.set_cons_succ]
     refine tkY 19 (some 72) rfl rfl (by kernel_rfl) (by kernel_rfl) (by kernel_rfl) (fun _ _ _ h => h) (by rfl) (v := ?tkve19) ?tkye19 (by assumption) rfl ?tkre19
     case tkye19 =>
      intro W' hSw
      try dsimp only at hSw
      go_simp
      first | done | with_reducible rfl
     simp only [Act.put, List.setIfInBounds_toArray, List.set_cons_zero, List.set_cons_succ]
     refine tkY 20 (some 73) rfl rfl (by kernel_rfl) (by kernel_rfl) (by kernel_rfl) (fun _ _ _ h => h) (by rfl) (v := ?tkve20) ?tkye20 (by assumption) rfl ?tkre20
     case tkye20 =>
      intro W' hSw
      try dsimp only at hSw
      go_simp
      first | done | with_reducible rfl
     simp only [Act.put, List.setIfInBounds_toArray, List.set_cons_zero, List.set_cons_succ]
     refine tkN 21 (some 74) rfl rfl (by kernel_rfl) (by kernel_rfl) (by kernel_rfl) (fun _ _ _ h => h) (by rfl) (by assumption) rfl ?_
     simp only [Act.put, List.setIfInBounds_toArray, List.set_cons_zero, List.set_cons_succ]
     refine tkN 22 (some 75) rfl rfl (by kernel_rfl) (by kernel_rfl) (by kernel_rfl) (fun _ _ _ h => h) (by rfl) (by assumption) rfl ?_
     simp only [Act.put, List.setIfInBounds_toArray, List.set_cons_zero, List.set_cons_succ]
     refine tkN 23 (some 76) rfl rfl (by kernel_rfl) (by kernel_rfl) (by kernel_rfl) (fun _ _ _ h => h) (by rfl) (by assumption) rfl ?_
     simp only [Act.put, List.setIfInBounds_toArray, List.set_cons_zero, List.set_cons_succ]
     refine tkN 24 (some 77) rfl rfl (by kernel_rfl) (by kernel_rfl) (by kernel_rfl) (fun _ _ _ h => h) (by rfl) (by assumption) rfl ?_
     simp only [Act.put, List.setIfInBounds_toArray, List.set_cons_zero, List.set_cons_succ]
     refine tkY 25 (some 78) rfl rfl (by kernel_rfl) (by kernel_rfl) (by kernel_rfl) (fun _ _ _ h => h) (by rfl) (v := ?tkve25) ?tkye25 (by assumption) rfl ?tkre25
     case tkye25 =>
      intro W' hSw
      try dsimp only at hSw
      go_simp
      first | done | with_reducible rfl
     simp only [Act.put, List.setIfInBounds_toArray, List.set_cons_zero, List.set_cons_succ]
     refine wpAnyH_done (by kernel_rfl) ?_ _
     go_wp2_with fail
     go_ret
     exact ⟨rfl, h6.ra.rc.below⟩
    | false =>
     simp only at hr1
     rw [if_neg (by rw [hzb]; decide)] at hr1
     obtain ⟨⟨yk, yi, yt⟩, hya, hr2⟩ := Option.bind_eq_some_iff.mp hr1
     clear hr1
     have HZB := Lib.hid hya
     clear hya d50 d51 d52 d70 d71 d72
     simp only at hr2
     have H2 := Lib.hid hr2
     clear hr2
     refine wp_region_held_drew (S := (fun W => (W.cell? ⟨B5, 0, none⟩ = some (.int .i64 ak) ∧ W.cell? ⟨B5, 1, none⟩ = some (.int .i64 ai) ∧ W.cell? ⟨B5, 2, none⟩ = some (.string at_)) ∧ (W.cell? ⟨B7, 0, none⟩ = some (.int .i64 bk) ∧ W.cell? ⟨B7, 1, none⟩ = some (.int .i64 bi) ∧ W.cell? ⟨B7, 2, none⟩ = some (.string bt_)))) (by kernel_rfl) h5.drew.held (fun hHeld => ?_)
     refine tkY 0 (some 53) rfl rfl (by kernel_rfl) (by kernel_rfl) (by kernel_rfl) (fun _ _ _ h => h) (by rfl) (v := ?tkvf0) ?tkyf0 (by assumption) rfl ?tkrf0
     case tkyf0 =>
      intro W' hSw
      try dsimp only at hSw
      go_simp
      first | done | with_reducible rfl
     simp only [Act.put, List.setIfInBounds_toArray, List.set_cons_zero, List.set_cons_succ]
     refine tkY 1 (some 54) rfl rfl (by kernel_rfl) (by kernel_rfl) (by kernel_rfl) (fun _ _ _ h => h) (by rfl) (v := ?tkvf1) ?tkyf1 (by assumption) rfl ?tkrf1
     case tkyf1 =>
      intro W' hSw
      try dsimp only at hSw
      go_simp
      first | done | with_reducible rfl
     simp only [Act.put, List.setIfInBounds_toArray, List.set_cons_zero, List.set_cons_succ]
     refine tkY 2 (some 55) rfl rfl (by kernel_rfl) (by kernel_rfl) (by kernel_rfl) (fun _ _ _ h => h) (by rfl) (v := ?tkvf2) ?tkyf2 (by assumption) rfl ?tkrf2
     case tkyf2 =>
      intro W' hSw
      try dsimp only at hSw
      go_simp
      first | done | with_reducible rfl
     simp only [Act.put, List.setIfInBounds_toArray, List.set_cons_zero, List.set_cons_succ]
     refine tkY 3 (some 56) rfl rfl (by kernel_rfl) (by kernel_rfl) (by kernel_rfl) (fun _ _ _ h => h) (by rfl) (v := ?tkvf3) ?tkyf3 (by assumption) rfl ?tkrf3
     case tkyf3 =>
      intro W' hSw
      try dsimp only at hSw
      go_simp
      first | done | with_reducible rfl
     simp only [Act.put, List.setIfInBounds_toArray, List.set_cons_zero, List.set_cons_succ]
     refine tkY 4 (some 57) rfl rfl (by kernel_rfl) (by kernel_rfl) (by kernel_rfl) (fun _ _ _ h => h) (by rfl) (v := ?tkvf4) ?tkyf4 (by assumption) rfl ?tkrf4
     case tkyf4 =>
      intro W' hSw
      try dsimp only at hSw
      go_simp
      first | done | with_reducible rfl
     simp only [Act.put, List.setIfInBounds_toArray, List.set_cons_zero, List.set_cons_succ]
     refine tkY 5 (some 58) rfl rfl (by kernel_rfl) (by kernel_rfl) (by kernel_rfl) (fun _ _ _ h => h) (by rfl) (v := ?tkvf5) ?tkyf5 (by assumption) rfl ?tkrf5
     case tkyf5 =>
      intro W' hSw
      try dsimp only at hSw
      go_simp
      first | done | with_reducible rfl
     simp only [Act.put, List.setIfInBounds_toArray, List.set_cons_zero, List.set_cons_succ]
     refine tkY 6 (some 59) rfl rfl (by kernel_rfl) (by kernel_rfl) (by kernel_rfl) (fun _ _ _ h => h) (by rfl) (v := ?tkvf6) ?tkyf6 (by assumption) rfl ?tkrf6
     case tkyf6 =>
      intro W' hSw
      try dsimp only at hSw
      go_simp
      first | done | with_reducible rfl
     simp only [Act.put, List.setIfInBounds_toArray, List.set_cons_zero, List.set_cons_succ]
     refine tkY 7 (some 60) rfl rfl (by kernel_rfl) (by kernel_rfl) (by kernel_rfl) (fun _ _ _ h => h) (by rfl) (v := ?tkvf7) ?tkyf7 (by assumption) rfl ?tkrf7
     case tkyf7 =>
      intro W' hSw
      try dsimp only at hSw
      go_simp
      first | done | with_reducible rfl
     simp only [Act.put, List.setIfInBounds_toArray, List.set_cons_zero, List.set_cons_succ]
     refine tkY 8 (some 61) rfl rfl (by kernel_rfl) (by kernel_rfl) (by kernel_rfl) (fun _ _ _ h => h) (by rfl) (v := ?tkvf8) ?tkyf8 (by assumption) rfl ?tkrf8
     case tkyf8 =>
      intro W' hSw
      try dsimp only at hSw
      go_simp
      first | done | with_reducible rfl
     simp only [Act.put, List.setIfInBounds_toArray, List.set_cons_zero, List.set_cons_succ]
     refine tkY 9 (some 62) rfl rfl (by kernel_rfl) (by kernel_rfl) (by kernel_rfl) (fun _ _ _ h => h) (by rfl) (v := ?tkvf9) ?tkyf9 (by assumption) rfl ?tkrf9
     case tkyf9 =>
      intro W' hSw
      try dsimp only at hSw
      go_simp
      first | done | with_reducible rfl
     simp only [Act.put, List.setIfInBounds_toArray, List.set_cons_zero, List.set_cons_succ]
     refine tkY 10 (some 63) rfl rfl (by kernel_rfl) (by kernel_rfl) (by kernel_rfl) (fun _ _ _ h => h) (by rfl) (v := ?tkvf10) ?tkyf10 (by assumption) rfl ?tkrf10
     case tkyf10 =>
      intro W' hSw
      try dsimp only at hSw
      go_simp
      first | done | with_reducible rfl
     simp only [Act.put, List.setIfInBounds_toArray, List.set_cons_zero, List.set_cons_succ]
     refine tkY 11 (some 64) rfl rfl (by kernel_rfl) (by kernel_rfl) (by kernel_rfl) (fun _ _ _ h => h) (by rfl) (v := ?tkvf11) ?tkyf11 (by assumption) rfl ?tkrf11
     case tkyf11 =>
      intro W' hSw
      try dsimp only at hSw
      go_simp
      first | done | with_reducible rfl
     simp only [Act.put, List.setIfInBounds_toArray, List.set_cons_zero, List.set_cons_succ]
     refine tkY 12 (some 65) rfl rfl (by kernel_rfl) (by kernel_rfl) (by kernel_rfl) (fun _ _ _ h => h) (by rfl) (v := ?tkvf12) ?tkyf12 (by assumption) rfl ?tkrf12
     case tkyf12 =>
      intro W' hSw
      try dsimp only at hSw
      go_simp
      first | done | with_reducible rfl
     simp only [Act.put, List.setIfInBounds_toArray, List.set_cons_zero, List.set_cons_succ]
     refine tkY 13 (some 66) rfl rfl (by kernel_rfl) (by kernel_rfl) (by kernel_rfl) (fun _ _ _ h => h) (by rfl) (v := ?tkvf13) ?tkyf13 (by assumption) rfl ?tkrf13
     case tkyf13 =>
      intro W' hSw
      try dsimp only at hSw
      go_simp
      first | done | with_reducible rfl
     simp only [Act.put, List.setIfInBounds_toArray, List.set_cons_zero, List.set_cons_succ]
     refine tkY 14 (some 67) rfl rfl (by kernel_rfl) (by kernel_rfl) (by kernel_rfl) (fun _ _ _ h => h) (by rfl) (v := ?tkvf14) ?tkyf14 (by assumption) rfl ?tkrf14
     case tkyf14 =>
      intro W' hSw
      try dsimp only at hSw
      go_simp
      first | done | with_reducible rfl
     simp only [Act.put, List.setIfInBounds_toArray, List.set_cons_zero, List.set_cons_succ]
     refine tkY 15 (some 68) rfl rfl (by kernel_rfl) (by kernel_rfl) (by kernel_rfl) (fun _ _ _ h => h) (by rfl) (v := ?tkvf15) ?tkyf15 (by assumption) rfl ?tkrf15
     case tkyf15 =>
      intro W' hSw
      try dsimp only at hSw
      go_simp
      first | done | with_reducible rfl
     simp only [Act.put, List.setIfInBounds_toArray, List.set_cons_zero, List.set_cons_succ]
     refine tkY 17 (some 70) rfl rfl (by kernel_rfl) (by kernel_rfl) (by kernel_rfl) (fun _ _ _ h => h) (by rfl) (v := ?tkvf17) ?tkyf17 (by assumption) rfl ?tkrf17
     case tkyf17 =>
      intro W' hSw
      try dsimp only at hSw
      go_simp
      first | done | with_reducible rfl
     simp only [Act.put, List.setIfInBounds_toArray, List.set_cons_zero, List.set_cons_succ]
     refine wpAnyH_ready (rs := [16]) (by kernel_rfl) (by simp) (AllReadyH.cons (at_drop rfl) (fun K hK => ?_) AllReadyH.nil)
     go_simp
     (go_at_call_of 44 (Value.bool true); refine (marquetryref22_zero.calls k ak ai at_ true _ _ _ _ HZA.out).mono ?_; rintro e w6 ⟨rfl, hB6⟩; have h6 := h5.drew.next hB6)
     refine hK.out _ _ h6.held (fun hHeld => ?_)
     clear hK K
     try simp only [Act.put, List.setIfInBounds_toArray, List.set_cons_zero, List.set_cons_succ]
     refine tkY 18 (some 71) rfl rfl (by kernel_rfl) (by kernel_rfl) (by kernel_rfl) (fun _ _ _ h => h) (by rfl) (v := ?tkvf18) ?tkyf18 (by assumption) rfl ?tkrf18
     case tkyf18 =>
      intro W' hSw
      try dsimp only at hSw
      go_simp
      first | done | with_reducible rfl
     simp only [Act.put, List.setIfInBounds_toArray, List.set_cons_zero, List.set_cons_succ]
     refine tkY 19 (some 72) rfl rfl (by kernel_rfl) (by kernel_rfl) (by kernel_rfl) (fun _ _ _ h => h) (by rfl) (v := ?tkvf19) ?tkyf19 (by assumption) rfl ?tkrf19
     case tkyf19 =>
      intro W' hSw
      try dsimp only at hSw
      go_simp
      first | done | with_reducible rfl
     simp only [Act.put, List.setIfInBounds_toArray, List.set_cons_zero, List.set_cons_succ]
     refine tkY 20 (some 73) rfl rfl (by kernel_rfl) (by kernel_rfl) (by kernel_rfl) (fun _ _ _ h => h) (by rfl) (v := ?tkvf20) ?tkyf20 (by assumption) rfl ?tkrf20
     case tkyf20 =>
      intro W' hSw
      try dsimp only at hSw
      go_simp
      first | done | with_reducible rfl
     simp only [Act.put, List.setIfInBounds_toArray, List.set_cons_zero, List.set_cons_succ]
     refine tkY 21 (some 74) rfl rfl (by kernel_rfl) (by kernel_rfl) (by kernel_rfl) (fun _ _ _ h => h) (by rfl) (v := ?tkvf21) ?tkyf21 (by assumption) rfl ?tkrf21
     case tkyf21 =>
      intro W' hSw
      try dsimp only at hSw
      go_simp
      first | done | with_reducible rfl
     simp only [Act.put, List.setIfInBounds_toArray, List.set_cons_zero, List.set_cons_succ]
     refine tkY 23 (some 76) rfl rfl (by kernel_rfl) (by kernel_rfl) (by kernel_rfl) (fun _ _ _ h => h) (by rfl) (v := ?tkvf23) ?tkyf23 (by assumption) rfl ?tkrf23
     case tkyf23 =>
      intro W' hSw
      try dsimp only at hSw
      go_simp
      first | done | with_reducible rfl
     simp only [Act.put, List.setIfInBounds_toArray, List.set_cons_zero, List.set_cons_succ]
     refine wpAnyH_ready (rs := [22]) (by kernel_rfl) (by simp) (AllReadyH.cons (at_drop rfl) (fun K hK => ?_) AllReadyH.nil)
     go_simp
     (go_at_call_of 44 (Value.bool false); refine (marquetryref22_zero.calls k bk bi bt_ false _ _ _ _ HZB.out).mono ?_; rintro e w7 ⟨rfl, hB7⟩; have h7 := h6.next hB7)
     refine hK.out _ _ h7.held (fun hHeld => ?_)
     clear hK K
     try simp only [Act.put, List.setIfInBounds_toArray, List.set_cons_zero, List.set_cons_succ]
     refine tkY 24 (some 77) rfl rfl (by kernel_rfl) (by kernel_rfl) (by kernel_rfl) (fun _ _ _ h => h) (by rfl) (v := ?tkvf24) ?tkyf24 (by assumption) rfl ?tkrf24
     case tkyf24 =>
      intro W' hSw
      try dsimp only at hSw
      go_simp
      first | done | with_reducible rfl
     simp only [Act.put, List.setIfInBounds_toArray, List.set_cons_zero, List.set_cons_succ]
     refine tkY 25 (some 78) rfl rfl (by kernel_rfl) (by kernel_rfl) (by kernel_rfl) (fun _ _ _ h => h) (by rfl) (v := ?tkvf25) ?tkyf25 (by assumption) rfl ?tkrf25
     case tkyf25 =>
      intro W' hSw
      try dsimp only at hSw
      go_simp
      first | done | with_reducible rfl
     simp only [Act.put, List.setIfInBounds_toArray, List.set_cons_zero, List.set_cons_succ]
     refine wpAnyH_done (by kernel_rfl) ?_ _
     have hr := H2.out
     cases hyb : (!(yk == bk) || (!(yi == bi) || (!(yt.toList == bt_.toList)))) with
     | true =>
      rw [if_pos hyb, Option.some.injEq] at hr
      subst hr
      go_wp2_with fail
      go_ret
      exact ⟨rfl, h7.ra.rc.below⟩
     | false =>
      rw [if_neg (by rw [hyb]; decide), Option.some.injEq] at hr
      subst hr
      go_wp2_with fail
      go_ret
      exact ⟨rfl, h7.ra.rc.below⟩


end Go.Proofs.Ytncehlbhjoejhaa.H
end
section
-- Laid by this session's hprint.py, out of the kit's print.py and texts of the session. Not trusted: Lean checks it.
namespace Go.Proofs.Ytncehlbhjoejhaa.H
open Go.RowKit Go.Proofs.YtncehlbhjoejhaaW.PrintWords Go.Proofs.YtncehlbhjoejhaaW.PrintLast Go.Proofs.YtncehlbhjoejhaaW.PrintMore
attribute [local go_sem] max2_int min2_int max_two min_two max_three min_three max_four min_four   -- for this text's walks alone
set_option linter.unusedVariables false
set_option linter.unusedSimpArgs false

-- OVPART Derived.Lib.Hide Derived.Deep.RegionHeld3 Derived.BigRegion Derived.Deep.RegionWith Derived.Deep.Cut Derived.Deep.CutBlock Derived.Deep.DeepCutAuto
mutual
def marquetryref22_Of.j0 : Nat → List (S29) → Int → Bool → Int → Int → Option (Int × Bool × ByteArray × ByteArray)
 | 0, _, _, _, _, _ => none
 | k + 1, x1, x2, x25, x259000, x259001 => if x25 = true then (some (0, false, (⟨#[]⟩ : ByteArray), (⟨#[]⟩ : ByteArray))) else (marquetryref22_Of.l0 k x1 0 x259000 x259001 x2 false (⟨#[]⟩ : ByteArray) (⟨#[]⟩ : ByteArray))
def marquetryref22_Of.l0 : Nat → List (S29) → Int → Int → Int → Int → Bool → ByteArray → ByteArray → Option (Int × Bool × ByteArray × ByteArray)
 | 0, _, _, _, _, _, _, _, _ => none
 | k + 1, x1, x8, x259000, x259001, x262000, x262001, x262002, x262003 => if x8 < (x1.length : Int) then (if 0 ≤ x8 then ((marquetryref09_Of.f k ((rd_T29 x1 x8).f0) ((rd_T29 x1 x8).f1) ((rd_T29 x1 x8).f2) x259000 x259001).bind fun t263 => (if t263 = true then (marquetryref22_Of.l0 k x1 (wrap64 (x8 + 1)) x259000 x259001 x262000 x262001 x262002 x262003) else (some (0, false, (⟨#[]⟩ : ByteArray), (⟨#[]⟩ : ByteArray))))) else (none)) else (marquetryref22_Of.l1 k x1 0 x262000 x262001 x262002 x262003)
def marquetryref22_Of.l1 : Nat → List (S29) → Int → Int → Bool → ByteArray → ByteArray → Option (Int × Bool × ByteArray × ByteArray)
 | 0, _, _, _, _, _, _ => none
 | k + 1, x1, x9, x262000, x262001, x262002, x262003 => if x9 < (x1.length : Int) then (if 0 ≤ x9 then ((marquetryref22_placed.f k ((rd_T29 x1 x9).f0) ((rd_T29 x1 x9).f1) ((rd_T29 x1 x9).f2)).bind fun t265 => ((marquetryref22_placed.f k ((rd_T29 x1 x9).f0) ((rd_T29 x1 x9).f1) ((rd_T29 x1 x9).f2)).bind fun t267 => (marquetryref22_Of.l2 k x1 x9 t265 t267 0 x262000 x262001 x262002 x262003))) else (none)) else (some (x262000, x262001, x262002, x262003))
def marquetryref22_Of.l2 : Nat → List (S29) → Int → Bool → Bool → Int → Int → Bool → ByteArray → ByteArray → Option (Int × Bool × ByteArray × ByteArray)
 | 0, _, _, _, _, _, _, _, _, _ => none
 | k + 1, x1, x9, x10, x11, x12, x262000, x262001, x262002, x262003 => if x12 < (x1.length : Int) then (if 0 ≤ x12 then (if 0 ≤ x9 then (if x9 < (x1.length : Int) then ((marquetryref09_Compare.f k ((rd_T29 x1 x12).f0) ((rd_T29 x1 x12).f1) ((rd_T29 x1 x12).f2) ((rd_T29 x1 x9).f0) ((rd_T29 x1 x9).f1) ((rd_T29 x1 x9).f2)).bind fun bt270 => (if x10 = true then (if bt270.2 = true then (if x11 = true then (marquetryref22_Of.l2 k x1 x9 (decide (bt270.1 ≥ 0)) (decide (bt270.1 ≤ 0)) (wrap64 (x12 + 1)) x262000 x262001 x262002 x262003) else (marquetryref22_Of.l2 k x1 x9 (decide (bt270.1 ≥ 0)) false (wrap64 (x12 + 1)) x262000 x262001 x262002 x262003)) else (if x11 = true then (marquetryref22_Of.l2 k x1 x9 true true (wrap64 (x12 + 1)) x262000 x262001 x262002 x262003) else (marquetryref22_Of.l2 k x1 x9 true false (wrap64 (x12 + 1)) x262000 x262001 x262002 x262003))) else (if x11 = true then (if bt270.2 = true then (marquetryref22_Of.l2 k x1 x9 false (decide (bt270.1 ≤ 0)) (wrap64 (x12 + 1)) x262000 x262001 x262002 x262003) else (marquetryref22_Of.l2 k x1 x9 false true (wrap64 (x12 + 1)) x262000 x262001 x262002 x262003)) else (marquetryref22_Of.l2 k x1 x9 false false (wrap64 (x12 + 1)) x262000 x262001 x262002 x262003)))) else (none)) else (none)) else (none)) else (if x10 = true then (if 0 ≤ x9 then (if x9 < (x1.length : Int) then ((marquetryref22_zero.f k ((rd_T29 x1 x9).f0) ((rd_T29 x1 x9).f1) ((rd_T29 x1 x9).f2) true).bind fun bt273 => ((marquetryref22_Lay.f k bt273.1 bt273.2.1 bt273.2.2).bind fun t276 => (marquetryref22_Of.j4 k x1 x9 x11 x262000 true t276 x262003))) else (none)) else (none)) else (marquetryref22_Of.j4 k x1 x9 x11 x262000 x262001 x262002 x262003))
def marquetryref22_Of.j4 : Nat → List (S29) → Int → Bool → Int → Bool → ByteArray → ByteArray → Option (Int × Bool × ByteArray × ByteArray)
 | 0, _, _, _, _, _, _, _ => none
 | k + 1, x1, x9, x11, x262000, x262001, x262002, x262003 => if x11 = true then (if 0 ≤ x9 then (if x9 < (x1.length : Int) then ((marquetryref22_zero.f k ((rd_T29 x1 x9).f0) ((rd_T29 x1 x9).f1) ((rd_T29 x1 x9).f2) false).bind fun bt278 => ((marquetryref22_Lay.f k bt278.1 bt278.2.1 bt278.2.2).bind fun t281 => (marquetryref22_Of.l1 k x1 (wrap64 (x9 + 1)) x262000 x262001 x262002 t281))) else (none)) else (none)) else (marquetryref22_Of.l1 k x1 (wrap64 (x9 + 1)) x262000 x262001 x262002 x262003)
end
def marquetryref22_Of.f (k : Nat) (a0_0 : Int) (a0_1 : Int) (l1 : List (S29)) (a2 : Int) : Option (Int × Bool × ByteArray × ByteArray) := (marquetryref09_Check.f k a0_0 a0_1).bind fun t260 => (if t260 = true then (if a2 < 0 then (marquetryref22_Of.j0 k l1 a2 true a0_0 a0_1) else (marquetryref22_Of.j0 k l1 a2 (decide (a2 > 65536)) a0_0 a0_1)) else (marquetryref22_Of.j0 k l1 a2 true a0_0 a0_1))
theorem wrap_nxt (i : Nat) (h : i < 9223372036854775807) : wrap64 ((i : Int) + 1) = ((i + 1 : Nat) : Int) := by
 unfold wrap64
 omega
theorem rdD_at (l : List S29) (i : Nat) (h : i < l.length) : rd_T29 l (i : Int) = l[i] := by
 unfold rd_T29
 rw [Int.toNat_natCast, List.getD_eq_getElem?_getD, List.getElem?_eq_getElem h]
 rfl
theorem l2_step {K : Nat} {l : List S29} {i j : Nat} {le mo : Bool} {n : Int} {h : Bool} {a b : ByteArray} {r : Int × Bool × ByteArray × ByteArray} (hi : i < l.length) (hj : j < l.length) (hl : l.length ≤ 9223372036854775807) (H : marquetryref22_Of.l2 (K + 1) l (i : Int) le mo (j : Int) n h a b = some r) :
  ∃ c1 c2, marquetryref09_Compare.f K l[j].f0 l[j].f1 l[j].f2 l[i].f0 l[i].f1 l[i].f2 = some (c1, c2) ∧ marquetryref22_Of.l2 K l (i : Int) (le && (!c2 || decide (c1 ≥ 0))) (mo && (!c2 || decide (c1 ≤ 0))) ((j + 1 : Nat) : Int) n h a b = some r := by
 simp only [marquetryref22_Of.l2] at H
 rw [if_pos (show (j : Int) < (l.length : Int) by omega), if_pos (show 0 ≤ (j : Int) by omega), if_pos (show 0 ≤ (i : Int) by omega), if_pos (show (i : Int) < (l.length : Int) by omega), rdD_at l j hj, rdD_at l i hi, wrap_nxt j (by omega)] at H
 obtain ⟨⟨c1, c2⟩, hc, H2⟩ := Option.bind_eq_some_iff.mp H
 refine ⟨c1, c2, hc, ?_⟩
 cases le <;> cases mo <;> cases c2 <;> simpa using H2
theorem l2_end {K : Nat} {l : List S29} {i : Nat} {le mo : Bool} {n : Int} {h : Bool} {a b : ByteArray} {r : Int × Bool × ByteArray × ByteArray} (hi : i < l.length) (H : marquetryref22_Of.l2 (K + 1) l (i : Int) le mo (l.length : Int) n h a b = some r) :
  (le = false ∧ marquetryref22_Of.j4 K l (i : Int) mo n h a b = some r) ∨ (le = true ∧ ∃ z0 z1 z2 t, marquetryref22_zero.f K l[i].f0 l[i].f1 l[i].f2 true = some (z0, z1, z2) ∧ marquetryref22_Lay.f K z0 z1 z2 = some t ∧ marquetryref22_Of.j4 K l (i : Int) mo n true t b = some r) := by
 simp only [marquetryref22_Of.l2] at H
 rw [if_neg (show ¬ (l.length : Int) < (l.length : Int) by omega)] at H
 cases le with
 | false => exact .inl ⟨rfl, by simpa using H⟩
 | true =>
  rw [if_pos rfl, if_pos (show 0 ≤ (i : Int) by omega), if_pos (show (i : Int) < (l.length : Int) by omega), rdD_at l i hi] at H
  obtain ⟨⟨z0, z1, z2⟩, hz, H2⟩ := Option.bind_eq_some_iff.mp H
  obtain ⟨t, ht, H3⟩ := Option.bind_eq_some_iff.mp H2
  exact .inr ⟨rfl, z0, z1, z2, t, hz, ht, H3⟩
theorem j4_step {K : Nat} {l : List S29} {i : Nat} {mo : Bool} {n : Int} {h : Bool} {a b : ByteArray} {r : Int × Bool × ByteArray × ByteArray} (hi : i < l.length) (hl : l.length ≤ 9223372036854775807) (H : marquetryref22_Of.j4 (K + 1) l (i : Int) mo n h a b = some r) :
  (mo = false ∧ marquetryref22_Of.l1 K l ((i + 1 : Nat) : Int) n h a b = some r) ∨ (mo = true ∧ ∃ z0 z1 z2 t, marquetryref22_zero.f K l[i].f0 l[i].f1 l[i].f2 false = some (z0, z1, z2) ∧ marquetryref22_Lay.f K z0 z1 z2 = some t ∧ marquetryref22_Of.l1 K l ((i + 1 : Nat) : Int) n h a t = some r) := by
 simp only [marquetryref22_Of.j4] at H
 cases mo with
 | false =>
  rw [if_neg (show ¬ (false = true) by decide), wrap_nxt i (by omega)] at H
  exact .inl ⟨rfl, H⟩
 | true =>
  rw [if_pos rfl, if_pos (show 0 ≤ (i : Int) by omega), if_pos (show (i : Int) < (l.length : Int) by omega), rdD_at l i hi, wrap_nxt i (by omega)] at H
  obtain ⟨⟨z0, z1, z2⟩, hz, H2⟩ := Option.bind_eq_some_iff.mp H
  obtain ⟨t, ht, H3⟩ := Option.bind_eq_some_iff.mp H2
  exact .inr ⟨rfl, z0, z1, z2, t, hz, ht, H3⟩
theorem l1_step {K : Nat} {l : List S29} {i : Nat} {n : Int} {h : Bool} {a b : ByteArray} {r : Int × Bool × ByteArray × ByteArray} (hi : i < l.length) (H : marquetryref22_Of.l1 (K + 1) l (i : Int) n h a b = some r) :
  ∃ le mo, marquetryref22_placed.f K l[i].f0 l[i].f1 l[i].f2 = some le ∧ marquetryref22_placed.f K l[i].f0 l[i].f1 l[i].f2 = some mo ∧ marquetryref22_Of.l2 K l (i : Int) le mo 0 n h a b = some r := by
 simp only [marquetryref22_Of.l1] at H
 rw [if_pos (show (i : Int) < (l.length : Int) by omega), if_pos (show 0 ≤ (i : Int) by omega), rdD_at l i hi] at H
 obtain ⟨le, h1, H2⟩ := Option.bind_eq_some_iff.mp H
 obtain ⟨mo, h2, H3⟩ := Option.bind_eq_some_iff.mp H2
 exact ⟨le, mo, h1, h2, H3⟩
theorem l0_step {K : Nat} {l : List S29} {i : Nat} {t0 t1 n : Int} {h : Bool} {a b : ByteArray} {r : Int × Bool × ByteArray × ByteArray} (hi : i < l.length) (hl : l.length ≤ 9223372036854775807) (H : marquetryref22_Of.l0 (K + 1) l (i : Int) t0 t1 n h a b = some r) :
  ∃ o, marquetryref09_Of.f K l[i].f0 l[i].f1 l[i].f2 t0 t1 = some o ∧ ((o = true ∧ marquetryref22_Of.l0 K l ((i + 1 : Nat) : Int) t0 t1 n h a b = some r) ∨ (o = false ∧ r = (0, false, ⟨#[]⟩, ⟨#[]⟩))) := by
 simp only [marquetryref22_Of.l0] at H
 rw [if_pos (show (i : Int) < (l.length : Int) by omega), if_pos (show 0 ≤ (i : Int) by omega), rdD_at l i hi, wrap_nxt i (by omega)] at H
 obtain ⟨o, h1, H2⟩ := Option.bind_eq_some_iff.mp H
 refine ⟨o, h1, ?_⟩
 cases o with
 | true => exact .inl ⟨rfl, by simpa using H2⟩
 | false => exact .inr ⟨rfl, by simpa using H2.symm⟩
structure RfA (w W : World) (t0 t1 : Int) : Prop where
 b0 : W.heap[w.heap.size]? = some (.cells #[.int .i64 t0, .int .i64 t1] 24 (0, 0))
 b6 : W.heap[w.heap.size + 1]? = some (.cells #[.int .i64 0, .bool false, .string ⟨#[]⟩, .string ⟨#[]⟩] 31 (0, 0))
 below : Below w.heap.size w W
theorem RfA.next {w W W' : World} {t0 t1 : Int} (h : RfA w W t0 t1) (hb : Below W.heap.size W W') : RfA w W' t0 t1 := ⟨blk_below h.b0 hb, blk_below h.b6 hb, below_step h.below hb⟩
theorem RfA.start (w : World) (t0 t1 : Int) : RfA w ((w.alloc (.cells #[.int .i64 t0, .int .i64 t1] 24)).alloc (.cells #[.int .i64 0, .bool false, .string ⟨#[]⟩, .string ⟨#[]⟩] 31)) t0 t1 := by
 refine ⟨blk_alloc (blk_new w _) _, ?_, below_alloc (below_alloc (Below.refl _ _) _) _⟩
 have h := blk_new (w.alloc (.cells #[.int .i64 t0, .int .i64 t1] 24)) (.cells #[.int .i64 0, .bool false, .string ⟨#[]⟩, .string ⟨#[]⟩] 31)
 rw [World.size_alloc] at h
 exact h
theorem RfA.far {w W : World} {B : Nat} {t0 t1 : Int} (h : RfA w W t0 t1) (hB : w.heap.size + 1 < B) (k : Nat) (v : Value) : RfA w (W.setCell ⟨B, k, none⟩ v) t0 t1 :=
 ⟨blk_far h.b0 (p := ⟨B, k, none⟩) (by show w.heap.size ≠ B; omega) v, blk_far h.b6 (p := ⟨B, k, none⟩) (by show w.heap.size + 1 ≠ B; omega) v, h.below.setCell (p := ⟨B, k, none⟩) (by show w.heap.size ≤ B; omega) v⟩
structure RfB (w W : World) (B : Nat) (t0 t1 n : Int) (h : Bool) (a b : ByteArray) : Prop extends RfA w W t0 t1 where
 lt : w.heap.size + 1 < B
 b7 : W.heap[B]? = some (.cells #[.int .i64 n, .bool h, .string a, .string b] 31 (0, 0))
theorem RfB.next {W' : World} {w W : World} {B : Nat} {t0 t1 n : Int} {h : Bool} {a b : ByteArray} (q : RfB w W B t0 t1 n h a b) (hb : Below W.heap.size W W') : RfB w W' B t0 t1 n h a b := ⟨q.toRfA.next hb, q.lt, blk_below q.b7 hb⟩
theorem RfB.drew {w W : World} {B : Nat} {t0 t1 n : Int} {h : Bool} {a b : ByteArray} (q : RfB w W B t0 t1 n h a b) : RfB w W.drew B t0 t1 n h a b := ⟨⟨q.b0, q.b6, q.below.drew⟩, q.lt, q.b7⟩
theorem RfB.start {w W : World} {t0 t1 : Int} (q : RfA w W t0 t1) (n : Int) : RfB w (W.alloc (.cells #[.int .i64 n, .bool false, .string ⟨#[]⟩, .string ⟨#[]⟩] 31)) W.heap.size t0 t1 n false ⟨#[]⟩ ⟨#[]⟩ := ⟨q.next (below_alloc (Below.refl _ _) _), blk_lt q.b6, blk_new W _⟩
theorem RfB.setH {w W : World} {B : Nat} {t0 t1 n : Int} {h : Bool} {a b : ByteArray} (q : RfB w W B t0 t1 n h a b) (v : Bool) : RfB w (W.setCell ⟨B, 1, none⟩ (.bool v)) B t0 t1 n v a b := ⟨q.toRfA.far q.lt 1 _, q.lt, blk_put q.b7 1 _ rfl⟩
theorem RfB.setA {w W : World} {B : Nat} {t0 t1 n : Int} {h : Bool} {a b : ByteArray} (q : RfB w W B t0 t1 n h a b) (v : ByteArray) : RfB w (W.setCell ⟨B, 2, none⟩ (.string v)) B t0 t1 n h v b := ⟨q.toRfA.far q.lt 2 _, q.lt, blk_put q.b7 2 _ rfl⟩
theorem RfB.setB {w W : World} {B : Nat} {t0 t1 n : Int} {h : Bool} {a b : ByteArray} (q : RfB w W B t0 t1 n h a b) (v : ByteArray) : RfB w (W.setCell ⟨B, 3, none⟩ (.string v)) B t0 t1 n h a v := ⟨q.toRfA.far q.lt 3 _, q.lt, blk_put q.b7 3 _ rfl⟩
theorem RfB.elem {w W : World} {B : Nat} {t0 t1 n : Int} {h : Bool} {a b : ByteArray} {l : List S29} (q : RfB w W B t0 t1 n h a b) (A : Option Addr) (hr : Kd.C k29 w A l.length l) {ad : Addr} (j : Nat) (hj : j < l.length) (hA : A = some ad := by rfl) :
  W.cell? (ad.add (j * 3)) = some (.int .i64 l[j].f0) ∧ W.cell? ⟨(ad.add (j * 3)).block, (ad.add (j * 3)).off + 1, none⟩ = some (.int .i64 l[j].f1) ∧ W.cell? ⟨(ad.add (j * 3)).block, (ad.add (j * 3)).off + 2, none⟩ = some (.string l[j].f2) := by
 obtain ⟨ad', e, h0, h1, h2⟩ := at_T29 (Kd.C_below hr q.below) (j : Int) (by omega) (by omega)
 rw [hA] at e
 obtain rfl := Option.some.inj e
 rw [rdD_at l j hj, Int.toNat_natCast] at h0 h1 h2
 exact ⟨h0, h1, h2⟩
theorem RfA.cells {w W : World} {t0 t1 : Int} (h : RfA w W t0 t1) : (W.cell? ⟨w.heap.size, 0, none⟩ = some (.int .i64 t0) ∧ W.cell? ⟨w.heap.size, 1, none⟩ = some (.int .i64 t1)) ∧
  (W.cell? ⟨w.heap.size + 1, 0, none⟩ = some (.int .i64 0) ∧ W.cell? ⟨w.heap.size + 1, 1, none⟩ = some (.bool false) ∧ W.cell? ⟨w.heap.size + 1, 2, none⟩ = some (.string ⟨#[]⟩) ∧ W.cell? ⟨w.heap.size + 1, 3, none⟩ = some (.string ⟨#[]⟩)) ∧
  (W.frozen? ⟨w.heap.size + 1, 0, none⟩ = false ∧ W.frozen? ⟨w.heap.size + 1, 1, none⟩ = false ∧ W.frozen? ⟨w.heap.size + 1, 2, none⟩ = false ∧ W.frozen? ⟨w.heap.size + 1, 3, none⟩ = false) :=
 ⟨⟨blk_cell h.b0 0, blk_cell h.b0 1⟩, ⟨blk_cell h.b6 0, blk_cell h.b6 1, blk_cell h.b6 2, blk_cell h.b6 3⟩, blk_frozen h.b6 0, blk_frozen h.b6 1, blk_frozen h.b6 2, blk_frozen h.b6 3⟩
theorem RfB.cells7 {w W : World} {B : Nat} {t0 t1 n : Int} {h : Bool} {a b : ByteArray} (q : RfB w W B t0 t1 n h a b) : (W.cell? ⟨B, 0, none⟩ = some (.int .i64 n) ∧ W.cell? ⟨B, 1, none⟩ = some (.bool h) ∧ W.cell? ⟨B, 2, none⟩ = some (.string a) ∧ W.cell? ⟨B, 3, none⟩ = some (.string b)) ∧
  (W.frozen? ⟨B, 0, none⟩ = false ∧ W.frozen? ⟨B, 1, none⟩ = false ∧ W.frozen? ⟨B, 2, none⟩ = false ∧ W.frozen? ⟨B, 3, none⟩ = false) :=
 ⟨⟨blk_cell q.b7 0, blk_cell q.b7 1, blk_cell q.b7 2, blk_cell q.b7 3⟩, blk_frozen q.b7 0, blk_frozen q.b7 1, blk_frozen q.b7 2, blk_frozen q.b7 3⟩
theorem j0_true {k : Nat} {l : List S29} {n t0 t1 : Int} {r : Int × Bool × ByteArray × ByteArray} (h : marquetryref22_Of.j0 k l n true t0 t1 = some r) : r = (0, false, ⟨#[]⟩, ⟨#[]⟩) := by
 cases k with
 | zero => simp [marquetryref22_Of.j0] at h
 | succ k => simp only [marquetryref22_Of.j0] at h; simpa using h.symm
theorem j0_false {k : Nat} {l : List S29} {n t0 t1 : Int} {r : Int × Bool × ByteArray × ByteArray} (h : marquetryref22_Of.j0 k l n false t0 t1 = some r) : ∃ K, marquetryref22_Of.l0 K l 0 t0 t1 n false ⟨#[]⟩ ⟨#[]⟩ = some r := by
 cases k with
 | zero => simp [marquetryref22_Of.j0] at h
 | succ k => exact ⟨k, by simp only [marquetryref22_Of.j0] at h; simpa using h⟩
theorem l0_end {K : Nat} {l : List S29} {t0 t1 n : Int} {h : Bool} {a b : ByteArray} {r : Int × Bool × ByteArray × ByteArray} (H : marquetryref22_Of.l0 K l (l.length : Int) t0 t1 n h a b = some r) : ∃ K2, marquetryref22_Of.l1 K2 l 0 n h a b = some r := by
 cases K with
 | zero => simp [marquetryref22_Of.l0] at H
 | succ K => exact ⟨K, by simp only [marquetryref22_Of.l0] at H; rwa [if_neg (show ¬ (l.length : Int) < (l.length : Int) by omega)] at H⟩
theorem l1_end {K : Nat} {l : List S29} {n : Int} {h : Bool} {a b : ByteArray} {r : Int × Bool × ByteArray × ByteArray} (H : marquetryref22_Of.l1 K l (l.length : Int) n h a b = some r) : r = (n, h, a, b) := by
 cases K with
 | zero => simp [marquetryref22_Of.l1] at H
 | succ K => simp only [marquetryref22_Of.l1] at H; rw [if_neg (show ¬ (l.length : Int) < (l.length : Int) by omega)] at H; exact (Option.some.inj H).symm
theorem l0_pos {K : Nat} {l : List S29} {j t0 t1 n : Int} {h : Bool} {a b : ByteArray} {r : Int × Bool × ByteArray × ByteArray} (H : marquetryref22_Of.l0 K l j t0 t1 n h a b = some r) : ∃ K2, K = K2 + 1 := by
 cases K with
 | zero => simp [marquetryref22_Of.l0] at H
 | succ K => exact ⟨K, rfl⟩
theorem l1_pos {K : Nat} {l : List S29} {j n : Int} {h : Bool} {a b : ByteArray} {r : Int × Bool × ByteArray × ByteArray} (H : marquetryref22_Of.l1 K l j n h a b = some r) : ∃ K2, K = K2 + 1 := by
 cases K with
 | zero => simp [marquetryref22_Of.l1] at H
 | succ K => exact ⟨K, rfl⟩
theorem l2_pos {K : Nat} {l : List S29} {i j n : Int} {le mo h : Bool} {a b : ByteArray} {r : Int × Bool × ByteArray × ByteArray} (H : marquetryref22_Of.l2 K l i le mo j n h a b = some r) : ∃ K2, K = K2 + 1 := by
 cases K with
 | zero => simp [marquetryref22_Of.l2] at H
 | succ K => exact ⟨K, rfl⟩
theorem j4_pos {K : Nat} {l : List S29} {i n : Int} {mo h : Bool} {a b : ByteArray} {r : Int × Bool × ByteArray × ByteArray} (H : marquetryref22_Of.j4 K l i mo n h a b = some r) : ∃ K2, K = K2 + 1 := by
 cases K with
 | zero => simp [marquetryref22_Of.j4] at H
 | succ K => exact ⟨K, rfl⟩
set_option maxHeartbeats 8000000 in
set_option maxRecDepth 100000 in
theorem marquetryref22_Of.calls (k : Nat) (a0_0 : Int) (a0_1 : Int) (A1 : Option Addr) (c1 : Nat) (l1 : List (S29)) (a2 : Int) (r1 : Int) (r2 : Bool) (r3 : ByteArray) (r4 : ByteArray) (w : World) (hr1 : Kd.C k29 w A1 l1.length l1) (hc1 : l1.length ≤ c1) (h : marquetryref22_Of.f k a0_0 a0_1 l1 a2 = some (r1, r2, r3, r4)) :
  Calls Try.prog 13 #[.agg #[.int .i64 a0_0, .int .i64 a0_1], .slice A1 l1.length c1, .int .i64 a2] w fun e w' => e = .returned (.agg #[.int .i64 r1, .bool r2, .string r3, .string r4]) ∧ Below w.heap.size w w' := by
 have hlm := Kd.C_max hr1
 unfold marquetryref22_Of.f at h
 obtain ⟨okc, hck, h2⟩ := Option.bind_eq_some_iff.mp h
 clear h
 have hS := RfA.start w a0_0 a0_1
 obtain ⟨W0, hW0⟩ : ∃ W0, W0 = (w.alloc (.cells #[.int .i64 a0_0, .int .i64 a0_1] 24)).alloc (.cells #[.int .i64 0, .bool false, .string ⟨#[]⟩, .string ⟨#[]⟩] 31) := ⟨_, rfl⟩
 rw [← hW0] at hS
 have HW0 := Lib.hid hW0
 have HCK := Lib.hid hck
 have HLM := Lib.hid hlm
 have HH := Lib.hid h2
 clear hW0 hck hlm h2
 go_enter Try.func13, Try.ntmps13
 go_wp2_with fail
 rw [← HW0.out]
 refine (marquetryref09_Check.calls k a0_0 a0_1 _ W0 HCK.out).mono ?_
 rintro e w1 ⟨rfl, hB1⟩
 have h1 := hS.next hB1
 clear hB1 hS HW0 HCK
 have h2 := HH.out
 cases okc with
 | false =>
  rw [if_neg (show ¬ (false = true) by decide)] at h2
  clear HH
  obtain ⟨⟨c00, c01⟩, ⟨d0, d1, d2, d3⟩, ⟨f0, f1, f2, f3⟩⟩ := h1.cells
  obtain ⟨rfl, rfl, rfl, rfl⟩ : r1 = 0 ∧ r2 = false ∧ r3 = ⟨#[]⟩ ∧ r4 = ⟨#[]⟩ := by have e := j0_true h2; simpa using e
  clear h2
  go_wp2_with fail
  refine bodyPost_ret (results_cell_row rfl _ _ (w.heap.size + 1) 31 #[.int .i64 0, .bool false, .string ⟨#[]⟩, .string ⟨#[]⟩] (0, 0) _ rfl (put4 h1.b6 _ _ _ _) Try.underlying31 rfl (by kernel_rfl)) rfl ⟨rfl, (((h1.below.setCell (p := ⟨w.heap.size + 1, 0, none⟩) (Nat.le_succ _) _).setCell (p := ⟨w.heap.size + 1, 1, none⟩) (Nat.le_succ _) _).setCell (p := ⟨w.heap.size + 1, 2, none⟩) (Nat.le_succ _) _).setCell (p := ⟨w.heap.size + 1, 3, none⟩) (Nat.le_succ _) _⟩
 | true =>
  rw [if_pos (rfl : true = true)] at h2
  clear HH
  by_cases hn0 : a2 < 0
  ·rw [if_pos hn0] at h2
   have hnb := decide_eq_true hn0
   clear hn0
   obtain ⟨⟨c00, c01⟩, ⟨d0, d1, d2, d3⟩, ⟨f0, f1, f2, f3⟩⟩ := h1.cells
   obtain ⟨rfl, rfl, rfl, rfl⟩ : r1 = 0 ∧ r2 = false ∧ r3 = ⟨#[]⟩ ∧ r4 = ⟨#[]⟩ := by have e := j0_true h2; simpa using e
   clear h2
   go_wp2_with fail
   refine bodyPost_ret (results_cell_row rfl _ _ (w.heap.size + 1) 31 #[.int .i64 0, .bool false, .string ⟨#[]⟩, .string ⟨#[]⟩] (0, 0) _ rfl (put4 h1.b6 _ _ _ _) Try.underlying31 rfl (by kernel_rfl)) rfl ⟨rfl, (((h1.below.setCell (p := ⟨w.heap.size + 1, 0, none⟩) (Nat.le_succ _) _).setCell (p := ⟨w.heap.size + 1, 1, none⟩) (Nat.le_succ _) _).setCell (p := ⟨w.heap.size + 1, 2, none⟩) (Nat.le_succ _) _).setCell (p := ⟨w.heap.size + 1, 3, none⟩) (Nat.le_succ _) _⟩
  rw [if_neg hn0] at h2
  have hnb := decide_eq_false hn0
  by_cases hn6 : a2 > 65536
  ·rw [decide_eq_true hn6] at h2
   have hnc := decide_eq_true hn6
   clear hn0 hn6
   obtain ⟨⟨c00, c01⟩, ⟨d0, d1, d2, d3⟩, ⟨f0, f1, f2, f3⟩⟩ := h1.cells
   obtain ⟨rfl, rfl, rfl, rfl⟩ : r1 = 0 ∧ r2 = false ∧ r3 = ⟨#[]⟩ ∧ r4 = ⟨#[]⟩ := by have e := j0_true h2; simpa using e
   clear h2
   go_wp2_with fail
   refine bodyPost_ret (results_cell_row rfl _ _ (w.heap.size + 1) 31 #[.int .i64 0, .bool false, .string ⟨#[]⟩, .string ⟨#[]⟩] (0, 0) _ rfl (put4 h1.b6 _ _ _ _) Try.underlying31 rfl (by kernel_rfl)) rfl ⟨rfl, (((h1.below.setCell (p := ⟨w.heap.size + 1, 0, none⟩) (Nat.le_succ _) _).setCell (p := ⟨w.heap.size + 1, 1, none⟩) (Nat.le_succ _) _).setCell (p := ⟨w.heap.size + 1, 2, none⟩) (Nat.le_succ _) _).setCell (p := ⟨w.heap.size + 1, 3, none⟩) (Nat.le_succ _) _⟩
  rw [decide_eq_false hn6] at h2
  have hnc := decide_eq_false hn6
  clear hn0 hn6
  obtain ⟨K0, hl0⟩ := j0_false h2
  have HL0 := Lib.hid hl0
  clear h2 hl0
  have hlt1 := blk_lt h1.b6
  have h5 := RfB.start h1 a2
  go_upto_region 4 with (fail)
  generalize hW2 : w1.alloc (.cells #[.int .i64 a2, .bool false, .string ⟨#[]⟩, .string ⟨#[]⟩] 31) = W2 at *
  generalize hB7 : w1.heap.size = B7 at *
  clear hW2 hB7 h1 hlt1
  go_wp2_with fail
  go_loopw [8] (fun v wr => ∃ j K : Nat, j ≤ l1.length ∧ v = .int .i64 j ∧ Hid (marquetryref22_Of.l0 K l1 (j : Int) a0_0 a0_1 a2 false ⟨#[]⟩ ⟨#[]⟩ = some (r1, r2, r3, r4)) ∧ RfB w wr B7 a0_0 a0_1 a2 false ⟨#[]⟩ ⟨#[]⟩) (fun v _ => l1.length - (intOf v).toNat)
  case atStart => exact ⟨0, K0, Nat.zero_le _, rfl, HL0, h5⟩
  case round =>
   clear h5 HL0
   obtain ⟨j, K, hj, rfl, H0, h5⟩ := hrel
   by_cases hlt : j < l1.length
   ·obtain ⟨ad, e1, _, _, _⟩ := at_T29 (Kd.C_below hr1 h5.below) (j : Int) (by omega) (by omega)
    subst e1
    obtain ⟨K, rfl⟩ := l0_pos H0.out
    obtain ⟨o, ho, hcase⟩ := l0_step hlt HLM.out H0.out
    have HO := Lib.hid ho
    have HCASE := Lib.hid hcase
    clear ho hcase H0
    have hlb : decide ((j : Int) < (l1.length : Int)) = true := decide_eq_true (by omega)
    have hb0 : (0 : Int) ≤ (j : Int) := by omega
    have hb1 : (j : Int) < (l1.length : Int) := by omega
    have hwj : IntKind.i64.wrap ((j : Int) + 1) = (j : Int) + 1 := by rw [IntKind.wrap_i64]; have := HLM.out; omega
    go_wp2_with fail
    obtain ⟨hy0, hy1, hy2⟩ := h5.drew.elem (some ad) hr1 j hlt
    have ht0 := h5.drew.cells.1.1
    have ht1 := h5.drew.cells.1.2
    refine wp_region_held_drew (S := fun W => (W.cell? ⟨w.heap.size, 0, none⟩ = some (.int .i64 a0_0) ∧ W.cell? ⟨w.heap.size, 1, none⟩ = some (.int .i64 a0_1)) ∧ (W.cell? (ad.add (j * 3)) = some (.int .i64 l1[j].f0) ∧ W.cell? ⟨((ad.add (j * 3))).block, ((ad.add (j * 3))).off + 1, none⟩ = some (.int .i64 l1[j].f1) ∧ W.cell? ⟨((ad.add (j * 3))).block, ((ad.add (j * 3))).off + 2, none⟩ = some (.string l1[j].f2))) (by kernel_rfl) ⟨⟨ht0, ht1⟩, hy0, hy1, hy2⟩ (fun hHeld => ?_)
    refine tkY 0 (some 35) rfl rfl (by kernel_rfl) (by kernel_rfl) (by kernel_rfl) (fun _ _ _ h => h) (by rfl) (v := ?tkva0) ?tkya0 (by assumption) rfl ?tkra0
    case tkya0 =>
     intro W' hSw
     try dsimp only at hSw
     go_simp
     first | done | with_reducible rfl
    simp only [Act.put, List.setIfInBounds_toArray, List.set_cons_zero, List.set_cons_succ]
    refine tkY 1 (some 36) rfl rfl (by kernel_rfl) (by kernel_rfl) (by kernel_rfl) (fun _ _ _ h => h) (by rfl) (v := ?tkva1) ?tkya1 (by assumption) rfl ?tkra1
    case tkya1 =>
     intro W' hSw
     try dsimp only at hSw
     go_simp
     first | done | with_reducible rfl
    simp only [Act.put, List.setIfInBounds_toArray, List.set_cons_zero, List.set_cons_succ]
    refine tkY 2 (some 37) rfl rfl (by kernel_rfl) (by kernel_rfl) (by kernel_rfl) (fun _ _ _ h => h) (by rfl) (v := ?tkva2) ?tkya2 (by assumption) rfl ?tkra2
    case tkya2 =>
     intro W' hSw
     try dsimp only at hSw
     go_simp
     first | done | with_reducible rfl
    simp only [Act.put, List.setIfInBounds_toArray, List.set_cons_zero, List.set_cons_succ]
    refine tkY 3 (some 38) rfl rfl (by kernel_rfl) (by kernel_rfl) (by kernel_rfl) (fun _ _ _ h => h) (by rfl) (v := ?tkva3) ?tkya3 (by assumption) rfl ?tkra3
    case tkya3 =>
     intro W' hSw
     try dsimp only at hSw
     go_simp
     first | done | with_reducible rfl
    simp only [Act.put, List.setIfInBounds_toArray, List.set_cons_zero, List.set_cons_succ]
    refine tkY 4 (some 39) rfl rfl (by kernel_rfl) (by kernel_rfl) (by kernel_rfl) (fun _ _ _ h => h) (by rfl) (v := ?tkva4) ?tkya4 (by assumption) rfl ?tkra4
    case tkya4 =>
     intro W' hSw
     try dsimp only at hSw
     go_simp
     first | done | with_reducible rfl
    simp only [Act.put, List.setIfInBounds_toArray, List.set_cons_zero, List.set_cons_succ]
    refine wpAnyH_ready (rs := [5]) (by kernel_rfl) (by simp) (AllReadyH.cons (at_drop rfl) (fun KC hKC => ?_) AllReadyH.nil)
    go_simp
    (go_at_call 41; refine (marquetryref09_Of.calls K l1[j].f0 l1[j].f1 l1[j].f2 a0_0 a0_1 o _ HO.out).mono ?_; rintro e w6 ⟨rfl, hB6⟩; have h6 := h5.drew.next hB6; obtain ⟨hz0, hz1, hz2⟩ := h6.elem (some ad) hr1 j hlt)
    refine hKC.out _ _ ⟨⟨blk_cell h6.b0 0, blk_cell h6.b0 1⟩, hz0, hz1, hz2⟩ (fun hHeld => ?_)
    clear hKC KC
    try simp only [Act.put, List.setIfInBounds_toArray, List.set_cons_zero, List.set_cons_succ]
    refine tkY 6 (some 41) rfl rfl (by kernel_rfl) (by kernel_rfl) (by kernel_rfl) (fun _ _ _ h => h) (by rfl) (v := ?tkva6) ?tkya6 (by assumption) rfl ?tkra6
    case tkya6 =>
     intro W' hSw
     try dsimp only at hSw
     go_simp
     first | done | with_reducible rfl
    simp only [Act.put, List.setIfInBounds_toArray, List.set_cons_zero, List.set_cons_succ]
    refine wpAnyH_done (by kernel_rfl) ?_ _
    rcases HCASE.out with ⟨rfl, H1⟩ | ⟨rfl, hr⟩
    ·have H1 := Lib.hid H1
     clear HCASE
     go_wp2_with fail
     go_roundw
     case rel => exact ⟨j + 1, K, by omega, by go_num, H1, h6⟩
     case measure => simp [intOf]; omega
    ·obtain ⟨rfl, rfl, rfl, rfl⟩ : r1 = 0 ∧ r2 = false ∧ r3 = ⟨#[]⟩ ∧ r4 = ⟨#[]⟩ := by simpa using hr
     clear HCASE hr
     obtain ⟨⟨c00, c01⟩, ⟨d0, d1, d2, d3⟩, ⟨f0, f1, f2, f3⟩⟩ := h6.cells
     go_wp2_with fail
     refine bodyPost_ret (results_cell_row rfl _ _ (w.heap.size + 1) 31 #[.int .i64 0, .bool false, .string ⟨#[]⟩, .string ⟨#[]⟩] (0, 0) _ rfl (put4 h6.b6 _ _ _ _) Try.underlying31 rfl (by kernel_rfl)) rfl ⟨rfl, (((h6.below.setCell (p := ⟨w.heap.size + 1, 0, none⟩) (Nat.le_succ _) _).setCell (p := ⟨w.heap.size + 1, 1, none⟩) (Nat.le_succ _) _).setCell (p := ⟨w.heap.size + 1, 2, none⟩) (Nat.le_succ _) _).setCell (p := ⟨w.heap.size + 1, 3, none⟩) (Nat.le_succ _) _⟩
   ·have hje : j = l1.length := by omega
    subst hje
    obtain ⟨K1, hl1⟩ := l0_end H0.out
    have HL1 := Lib.hid hl1
    clear hl1 H0 hlt hj
    have hlb : decide ((l1.length : Int) < (l1.length : Int)) = false := decide_eq_false (by omega)
    go_wp2_with fail
    go_loopw [9] (fun v wr => ∃ j K : Nat, ∃ (h : Bool) (a b : ByteArray), j ≤ l1.length ∧ v = .int .i64 j ∧ Hid (marquetryref22_Of.l1 K l1 (j : Int) a2 h a b = some (r1, r2, r3, r4)) ∧ RfB w wr B7 a0_0 a0_1 a2 h a b) (fun v _ => l1.length - (intOf v).toNat)
    case atStart => exact ⟨0, K1, false, ⟨#[]⟩, ⟨#[]⟩, Nat.zero_le _, rfl, HL1, h5⟩
    case round =>
     clear h5 HL1 hlb
     obtain ⟨j, K, h, a, b, hj, rfl, H0, h5⟩ := hrel
     by_cases hlt : j < l1.length
     ·obtain ⟨ad, e1, _, _, _⟩ := at_T29 (Kd.C_below hr1 h5.below) (j : Int) (by omega) (by omega)
      subst e1
      obtain ⟨K, rfl⟩ := l1_pos H0.out
      obtain ⟨le0, mo0, hp1, hp2, hl2⟩ := l1_step hlt H0.out
      have HP1 := Lib.hid hp1
      have HP2 := Lib.hid hp2
      have HL2 := Lib.hid hl2
      clear hp1 hp2 hl2 H0
      have hlb : decide ((j : Int) < (l1.length : Int)) = true := decide_eq_true (by omega)
      have hb0 : (0 : Int) ≤ (j : Int) := by omega
      have hb1 : (j : Int) < (l1.length : Int) := by omega
      have hwj : IntKind.i64.wrap ((j : Int) + 1) = (j : Int) + 1 := by rw [IntKind.wrap_i64]; have := HLM.out; omega
      go_wp2_with fail
      obtain ⟨hy0, hy1, hy2⟩ := h5.drew.elem (some ad) hr1 j hlt
      refine wp_region_held_drew (S := fun W => (W.cell? (ad.add (j * 3)) = some (.int .i64 l1[j].f0) ∧ W.cell? ⟨((ad.add (j * 3))).block, ((ad.add (j * 3))).off + 1, none⟩ = some (.int .i64 l1[j].f1) ∧ W.cell? ⟨((ad.add (j * 3))).block, ((ad.add (j * 3))).off + 2, none⟩ = some (.string l1[j].f2))) (by kernel_rfl) ⟨hy0, hy1, hy2⟩ (fun hHeld => ?_)
      refine tkY 0 (some 49) rfl rfl (by kernel_rfl) (by kernel_rfl) (by kernel_rfl) (fun _ _ _ h => h) (by rfl) (v := ?tkvb0) ?tkyb0 (by assumption) rfl ?tkrb0
      case tkyb0 =>
       intro W' hSw
       try dsimp only at hSw
       go_simp
       first | done | with_reducible rfl
      simp only [Act.put, List.setIfInBounds_toArray, List.set_cons_zero, List.set_cons_succ]
      refine tkY 1 (some 50) rfl rfl (by kernel_rfl) (by kernel_rfl) (by kernel_rfl) (fun _ _ _ h => h) (by rfl) (v := ?tkvb1) ?tkyb1 (by assumption) rfl ?tkrb1
      case tkyb1 =>
       intro W' hSw
       try dsimp only at hSw
       go_simp
       first | done | with_reducible rfl
      simp only [Act.put, List.setIfInBounds_toArray, List.set_cons_zero, List.set_cons_succ]
      refine tkY 2 (some 51) rfl rfl (by kernel_rfl) (by kernel_rfl) (by kernel_rfl) (fun _ _ _ h => h) (by rfl) (v := ?tkvb2) ?tkyb2 (by assumption) rfl ?tkrb2
      case tkyb2 =>
       intro W' hSw
       try dsimp only at hSw
       go_simp
       first | done | with_reducible rfl
      simp only [Act.put, List.setIfInBounds_toArray, List.set_cons_zero, List.set_cons_succ]
      refine tkY 3 (some 52) rfl rfl (by kernel_rfl) (by kernel_rfl) (by kernel_rfl) (fun _ _ _ h => h) (by rfl) (v := ?tkvb3) ?tkyb3 (by assumption) rfl ?tkrb3
      case tkyb3 =>
       intro W' hSw
       try dsimp only at hSw
       go_simp
       first | done | with_reducible rfl
      simp only [Act.put, List.setIfInBounds_toArray, List.set_cons_zero, List.set_cons_succ]
      refine tkY 5 (some 54) rfl rfl (by kernel_rfl) (by kernel_rfl) (by kernel_rfl) (fun _ _ _ h => h) (by rfl) (v := ?tkvb5) ?tkyb5 (by assumption) rfl ?tkrb5
      case tkyb5 =>
       intro W' hSw
       try dsimp only at hSw
       go_simp
       first | done | with_reducible rfl
      simp only [Act.put, List.setIfInBounds_toArray, List.set_cons_zero, List.set_cons_succ]
      refine tkY 6 (some 55) rfl rfl (by kernel_rfl) (by kernel_rfl) (by kernel_rfl) (fun _ _ _ h => h) (by rfl) (v := ?tkvb6) ?tkyb6 (by assumption) rfl ?tkrb6
      case tkyb6 =>
       intro W' hSw
       try dsimp only at hSw
       go_simp
       first | done | with_reducible rfl
      simp only [Act.put, List.setIfInBounds_toArray, List.set_cons_zero, List.set_cons_succ]
      refine tkY 7 (some 56) rfl rfl (by kernel_rfl) (by kernel_rfl) (by kernel_rfl) (fun _ _ _ h => h) (by rfl) (v := ?tkvb7) ?tkyb7 (by assumption) rfl ?tkrb7
      case tkyb7 =>
       intro W' hSw
       try dsimp only at hSw
       go_simp
       first | done | with_reducible rfl
      simp only [Act.put, List.setIfInBounds_toArray, List.set_cons_zero, List.set_cons_succ]
      refine tkY 8 (some 57) rfl rfl (by kernel_rfl) (by kernel_rfl) (by kernel_rfl) (fun _ _ _ h => h) (by rfl) (v := ?tkvb8) ?tkyb8 (by assumption) rfl ?tkrb8
      case tkyb8 =>
       intro W' hSw
       try dsimp only at hSw
       go_simp
       first | done | with_reducible rfl
      simp only [Act.put, List.setIfInBounds_toArray, List.set_cons_zero, List.set_cons_succ]
      refine wpAnyH_ready (rs := [4]) (by kernel_rfl) (by simp) (AllReadyH.cons (at_drop rfl) (fun KC hKC => ?_) AllReadyH.nil)
      go_simp
      (go_at_call 42; refine (marquetryref22_placed.calls K l1[j].f0 l1[j].f1 l1[j].f2 le0 _ HP1.out).mono ?_; rintro e w6 ⟨rfl, hB6⟩; have h6 := h5.drew.next hB6; obtain ⟨hz0, hz1, hz2⟩ := h6.elem (some ad) hr1 j hlt)
      refine hKC.out _ _ ⟨hz0, hz1, hz2⟩ (fun hHeld => ?_)
      clear hKC KC
      try simp only [Act.put, List.setIfInBounds_toArray, List.set_cons_zero, List.set_cons_succ]
      refine wpAnyH_ready (rs := [9]) (by kernel_rfl) (by simp) (AllReadyH.cons (at_drop rfl) (fun KC hKC => ?_) AllReadyH.nil)
      go_simp
      (go_at_call 42; refine (marquetryref22_placed.calls K l1[j].f0 l1[j].f1 l1[j].f2 mo0 _ HP2.out).mono ?_; rintro e w7 ⟨rfl, hB7⟩; have h7 := h6.next hB7; obtain ⟨hv0, hv1, hv2⟩ := h7.elem (some ad) hr1 j hlt)
      refine hKC.out _ _ ⟨hv0, hv1, hv2⟩ (fun hHeld => ?_)
      clear hKC KC
      try simp only [Act.put, List.setIfInBounds_toArray, List.set_cons_zero, List.set_cons_succ]
      refine wpAnyH_ready (rs := [10]) (by kernel_rfl) (by simp) (AllReadyH.cons (at_drop rfl) (fun KC hKC => ?_) AllReadyH.nil)
      go_simp
      refine hKC.out _ _ ⟨hv0, hv1, hv2⟩ (fun hHeld => ?_)
      clear hKC KC
      try simp only [Act.put, List.setIfInBounds_toArray, List.set_cons_zero, List.set_cons_succ]
      refine wpAnyH_ready (rs := [11]) (by kernel_rfl) (by simp) (AllReadyH.cons (at_drop rfl) (fun KC hKC => ?_) AllReadyH.nil)
      go_simp
      refine hKC.out _ _ ⟨hv0, hv1, hv2⟩ (fun hHeld => ?_)
      clear hKC KC
      try simp only [Act.put, List.setIfInBounds_toArray, List.set_cons_zero, List.set_cons_succ]
      refine wpAnyH_done (by kernel_rfl) ?_ _
      clear hy0 hy1 hy2 hz0 hz1 hz2 hv0 hv1 hv2 hHeld HP1 HP2
      go_upto_block 4 with (fail)
      go_cut [10, 11] (fun v10 v11 wc => ∃ (le mo : Bool) (K2 : Nat), v10 = .bool le ∧ v11 = .bool mo ∧ Hid (marquetryref22_Of.l2 K2 l1 (j : Int) le mo (l1.length : Int) a2 h a b = some (r1, r2, r3, r4)) ∧ RfB w wc B7 a0_0 a0_1 a2 h a b)
      case first =>
       go_wp2_with fail
       go_loopw [10, 11, 12] (fun v10 v11 v12 wr => ∃ (m K2 : Nat) (le mo : Bool), m ≤ l1.length ∧ v10 = .bool le ∧ v11 = .bool mo ∧ v12 = .int .i64 m ∧ Hid (marquetryref22_Of.l2 K2 l1 (j : Int) le mo (m : Int) a2 h a b = some (r1, r2, r3, r4)) ∧ RfB w wr B7 a0_0 a0_1 a2 h a b) (fun _ _ v12 _ => l1.length - (intOf v12).toNat)
       case atStart => exact ⟨0, K, le0, mo0, Nat.zero_le _, rfl, rfl, rfl, HL2, h7⟩
       case round =>
        clear HL2 h7 h6 h5 hB6 hB7
        obtain ⟨m, K2, le, mo, hm, rfl, rfl, rfl, H2, hs⟩ := hrel
        by_cases hltm : m < l1.length
        ·obtain ⟨K2, rfl⟩ := l2_pos H2.out
         obtain ⟨c1, c2, hc, H3⟩ := l2_step hlt hltm HLM.out H2.out
         have HC := Lib.hid hc
         have H3 := Lib.hid H3
         clear hc H2
         have hlbm : decide ((m : Int) < (l1.length : Int)) = true := decide_eq_true (by omega)
         have hm0 : (0 : Int) ≤ (m : Int) := by omega
         have hm1 : (m : Int) < (l1.length : Int) := by omega
         have hwm : IntKind.i64.wrap ((m : Int) + 1) = (m : Int) + 1 := by rw [IntKind.wrap_i64]; have := HLM.out; omega
         go_wp2_with fail
         obtain ⟨hq0, hq1, hq2⟩ := hs.drew.elem (some ad) hr1 m hltm
         obtain ⟨hy0, hy1, hy2⟩ := hs.drew.elem (some ad) hr1 j hlt
         refine wp_region_held_drew (S := fun W => (W.cell? (ad.add (m * 3)) = some (.int .i64 l1[m].f0) ∧ W.cell? ⟨((ad.add (m * 3))).block, ((ad.add (m * 3))).off + 1, none⟩ = some (.int .i64 l1[m].f1) ∧ W.cell? ⟨((ad.add (m * 3))).block, ((ad.add (m * 3))).off + 2, none⟩ = some (.string l1[m].f2)) ∧ (W.cell? (ad.add (j * 3)) = some (.int .i64 l1[j].f0) ∧ W.cell? ⟨((ad.add (j * 3))).block, ((ad.add (j * 3))).off + 1, none⟩ = some (.int .i64 l1[j].f1) ∧ W.cell? ⟨((ad.add (j * 3))).block, ((ad.add (j * 3))).off + 2, none⟩ = some (.string l1[j].f2))) (by kernel_rfl) ⟨⟨hq0, hq1, hq2⟩, hy0, hy1, hy2⟩ (fun hHeld => ?_)
         refine tkY 0 (some 66) rfl rfl (by kernel_rfl) (by kernel_rfl) (by kernel_rfl) (fun _ _ _ h => h) (by rfl) (v := ?tkvc0) ?tkyc0 (by assumption) rfl ?tkrc0
         case tkyc0 =>
          intro W' hSw
          try dsimp only at hSw
          go_simp
          first | done | with_reducible rfl
         simp only [Act.put, List.setIfInBounds_toArray, List.set_cons_zero, List.set_cons_succ]
         refine tkY 1 (some 67) rfl rfl (by kernel_rfl) (by kernel_rfl) (by kernel_rfl) (fun _ _ _ h => h) (by rfl) (v := ?tkvc1) ?tkyc1 (by assumption) rfl ?tkrc1
         case tkyc1 =>
          intro W' hSw
          try dsimp only at hSw
          go_simp
          first | done | with_reducible rfl
         simp only [Act.put, List.setIfInBounds_toArray, List.set_cons_zero, List.set_cons_succ]
         refine tkY 2 (some 68) rfl rfl (by kernel_rfl) (by kernel_rfl) (by kernel_rfl) (fun _ _ _ h => h) (by rfl) (v := ?tkvc2) ?tkyc2 (by assumption) rfl ?tkrc2
         case tkyc2 =>
          intro W' hSw
          try dsimp only at hSw
          go_simp
          first | done | with_reducible rfl
         simp only [Act.put, List.setIfInBounds_toArray, List.set_cons_zero, List.set_cons_succ]
         refine tkY 3 (some 69) rfl rfl (by kernel_rfl) (by kernel_rfl) (by kernel_rfl) (fun _ _ _ h => h) (by rfl) (v := ?tkvc3) ?tkyc3 (by assumption) rfl ?tkrc3
         case tkyc3 =>
          intro W' hSw
          try dsimp only at hSw
          go_simp
          first | done | with_reducible rfl
         simp only [Act.put, List.setIfInBounds_toArray, List.set_cons_zero, List.set_cons_succ]
         refine tkY 4 (some 70) rfl rfl (by kernel_rfl) (by kernel_rfl) (by kernel_rfl) (fun _ _ _ h => h) (by rfl) (v := ?tkvc4) ?tkyc4 (by assumption) rfl ?tkrc4
         case tkyc4 =>
          intro W' hSw
          try dsimp only at hSw
          go_simp
          first | done | with_reducible rfl
         simp only [Act.put, List.setIfInBounds_toArray, List.set_cons_zero, List.set_cons_succ]
         refine tkY 5 (some 71) rfl rfl (by kernel_rfl) (by kernel_rfl) (by kernel_rfl) (fun _ _ _ h => h) (by rfl) (v := ?tkvc5) ?tkyc5 (by assumption) rfl ?tkrc5
         case tkyc5 =>
          intro W' hSw
          try dsimp only at hSw
          go_simp
          first | done | with_reducible rfl
         simp only [Act.put, List.setIfInBounds_toArray, List.set_cons_zero, List.set_cons_succ]
         refine tkY 6 (some 72) rfl rfl (by kernel_rfl) (by kernel_rfl) (by kernel_rfl) (fun _ _ _ h => h) (by rfl) (v := ?tkvc6) ?tkyc6 (by assumption) rfl ?tkrc6
         case tkyc6 =>
          intro W' hSw
          try dsimp only at hSw
          go_simp
          first | done | with_reducible rfl
         simp only [Act.put, List.setIfInBounds_toArray, List.set_cons_zero, List.set_cons_succ]
         refine tkY 7 (some 73) rfl rfl (by kernel_rfl) (by kernel_rfl) (by kernel_rfl) (fun _ _ _ h => h) (by rfl) (v := ?tkvc7) ?tkyc7 (by assumption) rfl ?tkrc7
         case tkyc7 =>
          intro W' hSw
          try dsimp only at hSw
          go_simp
          first | done | with_reducible rfl
         simp only [Act.put, List.setIfInBounds_toArray, List.set_cons_zero, List.set_cons_succ]
         refine wpAnyH_ready (rs := [8]) (by kernel_rfl) (by simp) (AllReadyH.cons (at_drop rfl) (fun KC hKC => ?_) AllReadyH.nil)
         go_simp
         (go_at_call 43; refine (marquetryref09_Compare.calls K2 l1[m].f0 l1[m].f1 l1[m].f2 l1[j].f0 l1[j].f1 l1[j].f2 c1 c2 _ HC.out).mono ?_; rintro e w8 ⟨rfl, hB8⟩; have h8 := hs.drew.next hB8; obtain ⟨hu0, hu1, hu2⟩ := h8.elem (some ad) hr1 m hltm; obtain ⟨hv0, hv1, hv2⟩ := h8.elem (some ad) hr1 j hlt)
         refine hKC.out _ _ ⟨⟨hu0, hu1, hu2⟩, hv0, hv1, hv2⟩ (fun hHeld => ?_)
         clear hKC KC
         try simp only [Act.put, List.setIfInBounds_toArray, List.set_cons_zero, List.set_cons_succ]
         refine tkY 9 (some 65) rfl rfl (by kernel_rfl) (by kernel_rfl) (by kernel_rfl) (fun _ _ _ h => h) (by rfl) (v := ?tkvc9) ?tkyc9 (by assumption) rfl ?tkrc9
         case tkyc9 =>
          intro W' hSw
          try dsimp only at hSw
          go_simp
          first | done | with_reducible rfl
         simp only [Act.put, List.setIfInBounds_toArray, List.set_cons_zero, List.set_cons_succ]
         refine tkY 10 (some 75) rfl rfl (by kernel_rfl) (by kernel_rfl) (by kernel_rfl) (fun _ _ _ h => h) (by rfl) (v := ?tkvc10) ?tkyc10 (by assumption) rfl ?tkrc10
         case tkyc10 =>
          intro W' hSw
          try dsimp only at hSw
          go_simp
          first | done | with_reducible rfl
         simp only [Act.put, List.setIfInBounds_toArray, List.set_cons_zero, List.set_cons_succ]
         refine tkY 11 (some 76) rfl rfl (by kernel_rfl) (by kernel_rfl) (by kernel_rfl) (fun _ _ _ h => h) (by rfl) (v := ?tkvc11) ?tkyc11 (by assumption) rfl ?tkrc11
         case tkyc11 =>
          intro W' hSw
          try dsimp only at hSw
          go_simp
          first | done | with_reducible rfl
         simp only [Act.put, List.setIfInBounds_toArray, List.set_cons_zero, List.set_cons_succ]
         refine wpAnyH_ready (rs := [12]) (by kernel_rfl) (by simp) (AllReadyH.cons (at_drop rfl) (fun KC hKC => ?_) AllReadyH.nil)
         go_simp
         refine hKC.out _ _ ⟨⟨hu0, hu1, hu2⟩, hv0, hv1, hv2⟩ (fun hHeld => ?_)
         clear hKC KC
         try simp only [Act.put, List.setIfInBounds_toArray, List.set_cons_zero, List.set_cons_succ]
         refine wpAnyH_ready (rs := [13]) (by kernel_rfl) (by simp) (AllReadyH.cons (at_drop rfl) (fun KC hKC => ?_) AllReadyH.nil)
         go_simp
         refine hKC.out _ _ ⟨⟨hu0, hu1, hu2⟩, hv0, hv1, hv2⟩ (fun hHeld => ?_)
         clear hKC KC
         try simp only [Act.put, List.setIfInBounds_toArray, List.set_cons_zero, List.set_cons_succ]
         refine wpAnyH_done (by kernel_rfl) ?_ _
         clear hq0 hq1 hq2 hy0 hy1 hy2 hu0 hu1 hu2 hv0 hv1 hv2 hHeld HC hs hB8
         cases le <;> cases mo <;> cases c2
         all_goals
          go_wp2_with fail
          go_roundw
          case rel => exact ⟨m + 1, K2, _, _, by omega, rfl, rfl, by go_num, Lib.hid (by have q := H3.out; simpa using q), h8⟩
          case measure => simp [intOf]; omega
        ·have hme : m = l1.length := by omega
         subst hme
         have hlbm : decide ((l1.length : Int) < (l1.length : Int)) = false := decide_eq_false (by omega)
         go_wp2_with fail
         go_meet
         exact ⟨le, mo, K2, rfl, rfl, H2, hs⟩
      case rest =>
       clear HL2 h7 h6 h5 hB6 hB7
       obtain ⟨le, mo, K2, rfl, rfl, H2, hs⟩ := hcut
       obtain ⟨K2, rfl⟩ := l2_pos H2.out
       obtain ⟨hy0, hy1, hy2⟩ := hs.elem (some ad) hr1 j hlt
       obtain ⟨⟨g0, g1, g2, g3⟩, ⟨e0, e1, e2, e3⟩⟩ := hs.cells7
       rcases l2_end hlt H2.out with ⟨rfl, H4⟩ | ⟨rfl, z0, z1, z2, t, hz, ht, H4⟩
       ·obtain ⟨K3, rfl⟩ := j4_pos H4
        rcases j4_step hlt HLM.out H4 with ⟨rfl, H5⟩ | ⟨rfl, y0, y1, y2, u, hzb, htb, H5⟩
        ·have H5 := Lib.hid H5
         clear H4 H2
         go_wp2_with fail
         go_roundw
         case rel => exact ⟨j + 1, K3, h, a, b, by omega, by go_num, H5, hs⟩
         case measure => simp [intOf]; omega
        ·have H5 := Lib.hid H5
         have HZB := Lib.hid hzb
         have HTB := Lib.hid htb
         clear H4 H2 hzb htb
         go_wp2_with fail
         refine (marquetryref22_zero.calls K3 l1[j].f0 l1[j].f1 l1[j].f2 false y0 y1 y2 _ HZB.out).mono ?_
         rintro e s1w ⟨rfl, s1B⟩
         have s1h := hs.next s1B
         go_wp2_with fail
         refine (marquetryref22_Lay.calls K3 y0 y1 y2 u _ HTB.out).mono ?_
         rintro e s1v ⟨rfl, s1C⟩
         have s1 := s1h.next s1C
         clear hy0 hy1 hy2 g0 g1 g2 g3 e0 e1 e2 e3
         obtain ⟨hy0, hy1, hy2⟩ := s1.elem (some ad) hr1 j hlt
         obtain ⟨⟨g0, g1, g2, g3⟩, ⟨e0, e1, e2, e3⟩⟩ := s1.cells7
         go_wp2_with fail
         go_roundw
         case rel => exact ⟨j + 1, K3, h, a, u, by omega, by go_num, H5, s1.setB u⟩
         case measure => simp [intOf]; omega
       ·obtain ⟨K3, rfl⟩ := j4_pos H4
        have HZ := Lib.hid hz
        have HT := Lib.hid ht
        clear hz ht
        rcases j4_step hlt HLM.out H4 with ⟨rfl, H5⟩ | ⟨rfl, y0, y1, y2, u, hzb, htb, H5⟩
        ·have H5 := Lib.hid H5
         clear H4 H2
         have hk := hs.setH true
         obtain ⟨hx0, hx1, hx2⟩ := hk.elem (some ad) hr1 j hlt
         go_wp2_with fail
         refine (marquetryref22_zero.calls (K3 + 1) l1[j].f0 l1[j].f1 l1[j].f2 true z0 z1 z2 _ HZ.out).mono ?_
         rintro e s1w ⟨rfl, s1B⟩
         have s1h := hk.next s1B
         go_wp2_with fail
         refine (marquetryref22_Lay.calls (K3 + 1) z0 z1 z2 t _ HT.out).mono ?_
         rintro e s1v ⟨rfl, s1C⟩
         have s1 := s1h.next s1C
         clear hy0 hy1 hy2 g0 g1 g2 g3 e0 e1 e2 e3
         clear hx0 hx1 hx2
         obtain ⟨hy0, hy1, hy2⟩ := s1.elem (some ad) hr1 j hlt
         obtain ⟨⟨g0, g1, g2, g3⟩, ⟨e0, e1, e2, e3⟩⟩ := s1.cells7
         go_wp2_with fail
         go_roundw
         case rel => exact ⟨j + 1, K3, true, t, b, by omega, by go_num, H5, s1.setA t⟩
         case measure => simp [intOf]; omega
        ·have H5 := Lib.hid H5
         have HZB := Lib.hid hzb
         have HTB := Lib.hid htb
         clear H4 H2 hzb htb
         have hk := hs.setH true
         obtain ⟨hx0, hx1, hx2⟩ := hk.elem (some ad) hr1 j hlt
         go_wp2_with fail
         refine (marquetryref22_zero.calls (K3 + 1) l1[j].f0 l1[j].f1 l1[j].f2 true z0 z1 z2 _ HZ.out).mono ?_
         rintro e s1w ⟨rfl, s1B⟩
         have s1h := hk.next s1B
         go_wp2_with fail
         refine (marquetryref22_Lay.calls (K3 + 1) z0 z1 z2 t _ HT.out).mono ?_
         rintro e s1v ⟨rfl, s1C⟩
         have s1 := s1h.next s1C
         clear hy0 hy1 hy2 g0 g1 g2 g3 e0 e1 e2 e3
         clear hx0 hx1 hx2
         obtain ⟨hy0, hy1, hy2⟩ := s1.elem (some ad) hr1 j hlt
         obtain ⟨⟨g0, g1, g2, g3⟩, ⟨e0, e1, e2, e3⟩⟩ := s1.cells7
         have hk2 := s1.setA t
         obtain ⟨hx0, hx1, hx2⟩ := hk2.elem (some ad) hr1 j hlt
         go_wp2_with fail
         refine (marquetryref22_zero.calls K3 l1[j].f0 l1[j].f1 l1[j].f2 false y0 y1 y2 _ HZB.out).mono ?_
         rintro e s2w ⟨rfl, s2B⟩
         have s2h := hk2.next s2B
         go_wp2_with fail
         refine (marquetryref22_Lay.calls K3 y0 y1 y2 u _ HTB.out).mono ?_
         rintro e s2v ⟨rfl, s2C⟩
         have s2 := s2h.next s2C
         clear hy0 hy1 hy2 g0 g1 g2 g3 e0 e1 e2 e3
         clear hx0 hx1 hx2
         obtain ⟨hy0, hy1, hy2⟩ := s2.elem (some ad) hr1 j hlt
         obtain ⟨⟨g0, g1, g2, g3⟩, ⟨e0, e1, e2, e3⟩⟩ := s2.cells7
         go_wp2_with fail
         go_roundw
         case rel => exact ⟨j + 1, K3, true, t, u, by omega, by go_num, H5, s2.setB u⟩
         case measure => simp [intOf]; omega
     ·have hje : j = l1.length := by omega
      subst hje
      obtain ⟨rfl, rfl, rfl, rfl⟩ : r1 = a2 ∧ r2 = h ∧ r3 = a ∧ r4 = b := by have e := l1_end H0.out; simpa using e
      clear H0
      have hlb : decide ((l1.length : Int) < (l1.length : Int)) = false := decide_eq_false (by omega)
      obtain ⟨⟨c00, c01⟩, ⟨d0, d1, d2, d3⟩, ⟨f0, f1, f2, f3⟩⟩ := h5.cells
      obtain ⟨⟨g0, g1, g2, g3⟩, ⟨e0, e1, e2, e3⟩⟩ := h5.cells7
      go_wp2_with fail
      refine bodyPost_ret (results_cell_row rfl _ _ (w.heap.size + 1) 31 #[.int .i64 r1, .bool r2, .string r3, .string r4] (0, 0) _ rfl (put4 h5.b6 _ _ _ _) Try.underlying31 rfl (by kernel_rfl)) rfl ⟨rfl, (((h5.below.setCell (p := ⟨w.heap.size + 1, 0, none⟩) (Nat.le_succ _) _).setCell (p := ⟨w.heap.size + 1, 1, none⟩) (Nat.le_succ _) _).setCell (p := ⟨w.heap.size + 1, 2, none⟩) (Nat.le_succ _) _).setCell (p := ⟨w.heap.size + 1, 3, none⟩) (Nat.le_succ _) _⟩


end Go.Proofs.Ytncehlbhjoejhaa.H
end
section
-- Laid by this session's hprint.py, out of the kit's print.py and texts of the session. Not trusted: Lean checks it.
namespace Go.Proofs.Ytncehlbhjoejhaa.H
open Go.RowKit Go.Proofs.YtncehlbhjoejhaaW.PrintWords Go.Proofs.YtncehlbhjoejhaaW.PrintLast Go.Proofs.YtncehlbhjoejhaaW.PrintMore
attribute [local go_sem] max2_int min2_int max_two min_two max_three min_three max_four min_four   -- for this text's walks alone
set_option linter.unusedVariables false
set_option linter.unusedSimpArgs false

def marquetryref22_Join.l0 : Nat → List (S31) → List (S29) → Int → Int → Int → Int → Option (Int × Bool × ByteArray × ByteArray × Int)
 | 0, _, _, _, _, _, _ => none
 | k + 1, x1, x6, x7, x8, x259000, x259001 => if x8 < (x1.length : Int) then (if 0 ≤ x8 then ((marquetryref22_Check.f k x259000 x259001 ((rd_T31 x1 x8).f0) ((rd_T31 x1 x8).f1) ((rd_T31 x1 x8).f2) ((rd_T31 x1 x8).f3)).bind fun t266 => (if t266 = 0 then (if (rd_T31 x1 x8).f1 = true then ((marquetryref22_Read.f k x259000 x259001 ((rd_T31 x1 x8).f2)).bind fun bt270 => ((marquetryref22_Read.f k x259000 x259001 ((rd_T31 x1 x8).f3)).bind fun bt276 => ((some (([(⟨bt270.1, bt270.2.1, bt270.2.2.1⟩ : S29), (⟨bt276.1, bt276.2.1, bt276.2.2.1⟩ : S29)] : List (S29)) : List (S29))).bind fun y281 => (if x6.length + y281.length < 4398046511104 then (marquetryref22_Join.l0 k x1 (x6 ++ y281) (mn (wrap64 (x7 + ((rd_T31 x1 x8).f0))) 65537) (wrap64 (x8 + 1)) x259000 x259001) else (none))))) else (marquetryref22_Join.l0 k x1 x6 (mn (wrap64 (x7 + ((rd_T31 x1 x8).f0))) 65537) (wrap64 (x8 + 1)) x259000 x259001)) else (some (0, false, (⟨#[]⟩ : ByteArray), (⟨#[]⟩ : ByteArray), 320)))) else (none)) else (if x7 > 65536 then (some (0, false, (⟨#[]⟩ : ByteArray), (⟨#[]⟩ : ByteArray), 320)) else ((marquetryref22_Of.f k x259000 x259001 x6 x7).bind fun bt261 => (some (bt261.1, bt261.2.1, bt261.2.2.1, bt261.2.2.2, 0))))
def marquetryref22_Join.f (k : Nat) (a0_0 : Int) (a0_1 : Int) (l1 : List (S31)) : Option (Int × Bool × ByteArray × ByteArray × Int) := (marquetryref09_Check.f k a0_0 a0_1).bind fun t260 => (if t260 = true then (marquetryref22_Join.l0 k l1 ([] : List (S29)) 0 0 a0_0 a0_1) else (some (0, false, (⟨#[]⟩ : ByteArray), (⟨#[]⟩ : ByteArray), 2)))
def marquetryref22_Join.T12 : Bool × List (List Nat × List Nat) := (true, [([], []), ([], []), ([], []), ([1, 2], [1, 2]), ([3], [3]), ([4], [4]), ([0, 5], [0, 5]), ([6], [6]), ([7], [7]), ([7], [7]), ([], []), ([10, 8, 6, 0, 1, 2, 3, 4, 5, 6, 7, 8, 10], [8, 10]), ([9, 11, 0, 1, 2, 3, 4, 5, 6, 7, 8, 9, 10, 11], [9])])
def marquetryref22_Join.B12 : List Nat := [0, 0, 0, 6, 14, 30, 63, 127, 255, 255, 0, 1535, 4095]
theorem marquetryref22_Join.tab12 : rtab .any (opsOf Try.f28 12) = marquetryref22_Join.T12 := by kernel_rfl
theorem marquetryref22_Join.bits12 : waitsOk marquetryref22_Join.T12.2 marquetryref22_Join.B12 = true := by kernel_rfl
def marquetryref22_Join.T13 : Bool × List (List Nat × List Nat) := (true, [([], []), ([], []), ([], []), ([1, 2], [1, 2]), ([3], [3]), ([4], [4]), ([0, 5], [0, 5]), ([6], [6]), ([7], [7]), ([7], [7]), ([], []), ([10, 8, 6, 0, 1, 2, 3, 4, 5, 6, 7, 8, 10], [8, 10]), ([9, 11, 0, 1, 2, 3, 4, 5, 6, 7, 8, 9, 10, 11], [9])])
def marquetryref22_Join.B13 : List Nat := [0, 0, 0, 6, 14, 30, 63, 127, 255, 255, 0, 1535, 4095]
theorem marquetryref22_Join.tab13 : rtab .any (opsOf Try.f28 13) = marquetryref22_Join.T13 := by kernel_rfl
theorem marquetryref22_Join.bits13 : waitsOk marquetryref22_Join.T13.2 marquetryref22_Join.B13 = true := by kernel_rfl
set_option maxHeartbeats 8000000 in
set_option maxRecDepth 100000 in
theorem marquetryref22_Join.calls (k : Nat) (a0_0 : Int) (a0_1 : Int) (A1 : Option Addr) (c1 : Nat) (l1 : List (S31)) (r1 : Int) (r2 : Bool) (r3 : ByteArray) (r4 : ByteArray) (r5 : Int) (w : World) (hr1 : Kd.C k31 w A1 l1.length l1) (hc1 : l1.length ≤ c1) (h : marquetryref22_Join.f k a0_0 a0_1 l1 = some (r1, r2, r3, r4, r5)) :
  Calls Try.prog 28 #[.agg #[.int .i64 a0_0, .int .i64 a0_1], .slice A1 l1.length c1] w fun e w' => e = .returned (.tuple #[.agg #[.int .i64 r1, .bool r2, .string r3, .string r4], .int .i64 r5]) ∧ Below w.heap.size w w' := by
 have hu24 := Try.underlying24
 have hu31 := Try.underlying31
 have hu29 := Try.underlying29
 have HR1 := Aside0.mk hr1
 have HC1 := Aside0.mk hc1
 clear hr1 hc1
 have HB := Aside0.mk (Below.refl w.heap.size w)
 have H : ((marquetryref09_Check.f k a0_0 a0_1).bind fun t260 => (if t260 = true then (marquetryref22_Join.l0 k l1 ([] : List (S29)) 0 0 a0_0 a0_1) else (some (0, false, (⟨#[]⟩ : ByteArray), (⟨#[]⟩ : ByteArray), 2)))) = some (r1, r2, r3, r4, r5) := h
 clear h
 replace H := Option.bind_eq_some_iff.mp H
 obtain ⟨t260, A30, H⟩ := H
 replace H : (if t260 = true then (marquetryref22_Join.l0 k l1 ([] : List (S29)) 0 0 a0_0 a0_1) else (some (0, false, (⟨#[]⟩ : ByteArray), (⟨#[]⟩ : ByteArray), 2))) = some (r1, r2, r3, r4, r5) := H
 have A3 := Aside0.mk A30
 clear A30
 by_cases c4 : t260 = true
 ·subst c4
  have H1 : (marquetryref22_Join.l0 k l1 ([] : List (S29)) 0 0 a0_0 a0_1) = some (r1, r2, r3, r4, r5) := by rw [if_pos rfl] at H; exact H
  clear H
  have H := H1
  clear H1
  have H' := Aside0.mk H
  clear H
  go_enter Try.func28, Try.ntmps28
  go_wp2_with (first | ((with_reducible refine gate_dst (N := 2) rfl ?_); refine box_event ?hg (N := 2) ?hd (cs := #[.int .i64 a0_0, .int .i64 a0_1]) (t := 24) ?hr ?_; (case hd => rfl); (case hg => rfl); (case hr => first | (go_simp; done) | (go_simp; rfl)); intro gb258 hg w5 hbox hb; have n0_ := Aside0.mk (below_step (by repeat (first | (with_reducible first | exact HB.out | apply below_alloc | apply pw_below_drewN | apply below_drew1) | exact HB.out)) hb); have n1_ := Aside0.mk (hbox); have n2_ := Aside0.mk ((by rw [hg]; exact (below_size (by repeat (first | (with_reducible first | exact HB.out | apply below_alloc | apply pw_below_drewN | apply below_drew1) | exact HB.out))) : w.heap.size ≤ gb258)); have n3_ := Aside0.mk ((by rw [hg]; exact (below_size (by repeat (first | (with_reducible first | exact HB.out | apply below_alloc | apply pw_below_drewN | apply below_drew1) | exact HB.out))) : w.heap.size ≤ gb258)); clear HB; have HB := n0_; have BK258 := n1_; have GW258 := n2_; have GE258 := n3_; clear n0_ n1_ n2_ n3_; clear hb hbox hg) | ((with_reducible refine gate_dst (N := 4) rfl ?_); refine box_event ?hg (N := 4) ?hd (cs := #[.int .i64 0, .bool false, .string (⟨#[]⟩ : ByteArray), .string (⟨#[]⟩ : ByteArray)]) (t := 31) ?hr ?_; (case hd => rfl); (case hg => rfl); (case hr => first | (go_simp; done) | (go_simp; rfl)); intro gb259 hg w6 hbox hb; have n0_ := Aside0.mk (blk_below (g := gb258) (o := .cells #[.int .i64 a0_0, .int .i64 a0_1] 24 (0, 0)) (by (with_reducible repeat (first | refine blk_drewN ?_ _ | refine blk_drew ?_ | refine blk_alloc ?_ _)); exact BK258.out) hb); have n1_ := Aside0.mk (below_step (by repeat (first | (with_reducible first | exact HB.out | apply below_alloc | apply pw_below_drewN | apply below_drew1 | refine below_set ?_ GE258.out) | exact HB.out)) hb); have n2_ := Aside0.mk (hbox); have n3_ := Aside0.mk ((by rw [hg]; exact (below_size (by repeat (first | (with_reducible first | exact HB.out | apply below_alloc | apply pw_below_drewN | apply below_drew1 | refine below_set ?_ GE258.out) | exact HB.out))) : w.heap.size ≤ gb259)); have n4_ := Aside0.mk ((by rw [hg]; exact (below_size (by repeat (first | (with_reducible first | exact HB.out | apply below_alloc | apply pw_below_drewN | apply below_drew1 | refine below_set ?_ GE258.out) | exact HB.out))) : w.heap.size ≤ gb259)); have n5_ := Aside0.mk ((by rw [hg]; exact Nat.ne_of_lt (blk_lt (g := gb258) (o := .cells #[.int .i64 a0_0, .int .i64 a0_1] 24 (0, 0)) (by (with_reducible repeat (first | refine blk_drewN ?_ _ | refine blk_drew ?_ | refine blk_alloc ?_ _)); exact BK258.out)) : gb258 ≠ gb259)); have n6_ := Aside0.mk ((by rw [hg]; exact Nat.ne_of_gt (blk_lt (g := gb258) (o := .cells #[.int .i64 a0_0, .int .i64 a0_1] 24 (0, 0)) (by (with_reducible repeat (first | refine blk_drewN ?_ _ | refine blk_drew ?_ | refine blk_alloc ?_ _)); exact BK258.out)) : gb259 ≠ gb258)); clear BK258; clear HB; have BK258 := n0_; have HB := n1_; have BK259 := n2_; have GW259 := n3_; have GE259 := n4_; have NB258_259 := n5_; have NB259_258 := n6_; clear n0_ n1_ n2_ n3_ n4_ n5_ n6_; clear hb hbox hg; have hnb7 := NB258_259.out; have hnc7 := NB259_258.out; have hcz8_0 : w6.cell? ⟨gb258, 0, none⟩ = some (.int .i64 a0_0) := (blk_cell BK258.out 0).trans rfl; have hcz8_1 : w6.cell? ⟨gb258, 1, none⟩ = some (.int .i64 a0_1) := (blk_cell BK258.out 1).trans rfl; have hfz8_0 := blk_frozen BK258.out 0; have hfz8_1 := blk_frozen BK258.out 1) | ((with_reducible refine gate_callee (f := 40) rfl ?_); refine goesL_ (some 14) rfl rfl Try.func40 (by kernel_rfl) rfl #[.agg #[.int .i64 a0_0, .int .i64 a0_1]] rfl (by (try simp only [List.map_toArray, List.map_cons, List.map_nil]); first | done | rfl | (simp only [List.length_drop, List.length_take]; rfl)) ?_; (with_reducible refine (marquetryref09_Check.calls k a0_0 a0_1 true _ A3.out).mono ?_); rintro e w9 ⟨rfl, hb⟩; refine ⟨_, rfl, ?_⟩; have n0_ := Aside0.mk (blk_below (g := gb258) (o := .cells #[.int .i64 a0_0, .int .i64 a0_1] 24 (0, 0)) (by (with_reducible repeat (first | refine blk_drewN ?_ _ | refine blk_drew ?_ | refine blk_alloc ?_ _)); exact BK258.out) hb); have n1_ := Aside0.mk (blk_below (g := gb259) (o := .cells #[.int .i64 0, .bool false, .string (⟨#[]⟩ : ByteArray), .string (⟨#[]⟩ : ByteArray)] 31 (0, 0)) (by (with_reducible repeat (first | refine blk_drewN ?_ _ | refine blk_drew ?_ | refine blk_alloc ?_ _)); exact BK259.out) hb); have n2_ := Aside0.mk (below_step (by repeat (first | (with_reducible first | exact HB.out | apply below_alloc | apply pw_below_drewN | apply below_drew1 | refine below_set ?_ GE258.out | refine below_set ?_ GE259.out) | exact HB.out)) hb); clear BK258; clear BK259; clear HB; have BK258 := n0_; have BK259 := n1_; have HB := n2_; clear n0_ n1_ n2_; (try clear hb); (try clear hb2); (try clear hk); (try clear hi)))
  go_loopg [6, 7, 8] k (fun kq v6 v7 v8 w' => ∃ (x6_1 : List (S29)) (x7_1 : Int) (x8_1 : Int) (x260000_1 : Int) (x260001_1 : Bool) (x260002_1 : ByteArray) (x260003_1 : ByteArray), v7 = .int .i64 x7_1 ∧ v8 = .int .i64 x8_1 ∧ Aside0 (marquetryref22_Join.l0 kq l1 x6_1 x7_1 x8_1 a0_0 a0_1 = some (r1, r2, r3, r4, r5)) ∧ Aside0 (kq ≤ k) ∧ Aside0 (Kd.R k29 29 w' w.heap.size (fun _ => True) v6 x6_1) ∧ Aside0 (w'.heap[gb258]? = some (.cells #[.int .i64 a0_0, .int .i64 a0_1] 24 (0, 0))) ∧ Aside0 (w'.heap[gb259]? = some (.cells #[.int .i64 x260000_1, .bool x260001_1, .string x260002_1, .string x260003_1] 31 (0, 0))) ∧ Aside0 (Below w.heap.size w w'))
  case atStart => exact ⟨(([] : List (S29))), (0), (0), (0), (false), ((⟨#[]⟩ : ByteArray)), ((⟨#[]⟩ : ByteArray)), (by first | rfl | (simp; done) | (simp [*]; done)), (by first | rfl | (simp; done) | (simp [*]; done)), H', ⟨Nat.le_refl _⟩, ⟨by first | exact Kd.R_nil _ _ _ _ _ | exact Kd.N_nil _ _ _ _ _ | exact Kd.V_nil _ _ _ _ _ | exact Kd.Q_nil _ _ _ _ _ | exact Kd.S_nil _ _ _ _ _⟩, ⟨by (with_reducible repeat (first | refine blk_drewN ?_ _ | refine blk_drew ?_ | refine blk_alloc ?_ _)); exact BK258.out⟩, ⟨by (with_reducible repeat (first | refine blk_drewN ?_ _ | refine blk_drew ?_ | refine blk_alloc ?_ _)); exact BK259.out⟩, ⟨by repeat (first | (with_reducible first | exact HB.out | apply below_alloc | apply pw_below_drewN | apply below_drew1 | refine below_set ?_ GE258.out | refine below_set ?_ GE259.out) | exact HB.out)⟩⟩
  case round =>
   clear H'
   try clear c1
   try clear c2
   try clear p2
   try clear c4
   try clear c7
   try clear hcz8_0
   try clear hcz8_1
   try clear hfz8_0
   try clear hfz8_1
   obtain ⟨x6_1, x7_1, x8_1, x260000_1, x260001_1, x260002_1, x260003_1, rfl, rfl, HA, HK1, HO_6, BK258, BK259, HB⟩ := hrel
   cases gk with
   | zero => exact absurd HA.out (by simp [marquetryref22_Join.l0])
   | succ k1 =>
    have H := HA.out
    clear HA
    simp only [marquetryref22_Join.l0] at H
    by_cases c10 : x8_1 < (l1.length : Int)
    ·rw [if_pos c10] at H
     have c10b0 : decide (x8_1 < (l1.length : Int)) = true := decide_eq_true c10
     clear c10
     by_cases c11 : 0 ≤ x8_1
     ·rw [if_pos c11] at H
      have c11b0 : decide (0 ≤ x8_1) = true := decide_eq_true c11
      clear c11
      replace H := Option.bind_eq_some_iff.mp H
      obtain ⟨t266, A120, H⟩ := H
      replace H : (if t266 = 0 then (if (rd_T31 l1 x8_1).f1 = true then ((marquetryref22_Read.f k1 a0_0 a0_1 ((rd_T31 l1 x8_1).f2)).bind fun bt270 => ((marquetryref22_Read.f k1 a0_0 a0_1 ((rd_T31 l1 x8_1).f3)).bind fun bt276 => ((some (([(⟨bt270.1, bt270.2.1, bt270.2.2.1⟩ : S29), (⟨bt276.1, bt276.2.1, bt276.2.2.1⟩ : S29)] : List (S29)) : List (S29))).bind fun y281 => (if x6_1.length + y281.length < 4398046511104 then (marquetryref22_Join.l0 k1 l1 (x6_1 ++ y281) (mn (wrap64 (x7_1 + ((rd_T31 l1 x8_1).f0))) 65537) (wrap64 (x8_1 + 1)) a0_0 a0_1) else (none))))) else (marquetryref22_Join.l0 k1 l1 x6_1 (mn (wrap64 (x7_1 + ((rd_T31 l1 x8_1).f0))) 65537) (wrap64 (x8_1 + 1)) a0_0 a0_1)) else (some (0, false, (⟨#[]⟩ : ByteArray), (⟨#[]⟩ : ByteArray), 320))) = some (r1, r2, r3, r4, r5) := H
      have A12 := Aside0.mk A120
      clear A120
      by_cases c13 : t266 = 0
      ·rw [if_pos c13] at H
       have c13b0 : (t266 == 0) = true := beq_iff_eq.mpr c13
       have c13b1 : (t266 != 0) = false := bne_eq_false_iff_eq.mpr c13
       clear c13
       obtain ⟨ji14, hji14⟩ : ∃ j_ : Int, (mn (wrap64 (x7_1 + ((rd_T31 l1 x8_1).f0))) 65537) = j_ := ⟨_, rfl⟩
       replace H : (if (rd_T31 l1 x8_1).f1 = true then ((marquetryref22_Read.f k1 a0_0 a0_1 ((rd_T31 l1 x8_1).f2)).bind fun bt270 => ((marquetryref22_Read.f k1 a0_0 a0_1 ((rd_T31 l1 x8_1).f3)).bind fun bt276 => ((some (([(⟨bt270.1, bt270.2.1, bt270.2.2.1⟩ : S29), (⟨bt276.1, bt276.2.1, bt276.2.2.1⟩ : S29)] : List (S29)) : List (S29))).bind fun y281 => (if x6_1.length + y281.length < 4398046511104 then (marquetryref22_Join.l0 k1 l1 (x6_1 ++ y281) ji14 (wrap64 (x8_1 + 1)) a0_0 a0_1) else (none))))) else (marquetryref22_Join.l0 k1 l1 x6_1 ji14 (wrap64 (x8_1 + 1)) a0_0 a0_1)) = some (r1, r2, r3, r4, r5) := by first | (rw [hji14] at H; exact H) | (simp only [hji14] at H ⊢; exact H)
       (try rw [hji14] at A12)
       have hji14_ : (if 65537 < (wrap64 (x7_1 + ((rd_T31 l1 x8_1).f0))) then 65537 else (wrap64 (x7_1 + ((rd_T31 l1 x8_1).f0)))) = ji14 := hji14
       obtain ⟨bq15, hbq15⟩ : ∃ b_ : Bool, b_ = ((rd_T31 l1 x8_1).f1) := ⟨_, rfl⟩
       replace H : (if bq15 = true then ((marquetryref22_Read.f k1 a0_0 a0_1 ((rd_T31 l1 x8_1).f2)).bind fun bt270 => ((marquetryref22_Read.f k1 a0_0 a0_1 ((rd_T31 l1 x8_1).f3)).bind fun bt276 => ((some (([(⟨bt270.1, bt270.2.1, bt270.2.2.1⟩ : S29), (⟨bt276.1, bt276.2.1, bt276.2.2.1⟩ : S29)] : List (S29)) : List (S29))).bind fun y281 => (if x6_1.length + y281.length < 4398046511104 then (marquetryref22_Join.l0 k1 l1 (x6_1 ++ y281) ji14 (wrap64 (x8_1 + 1)) a0_0 a0_1) else (none))))) else (marquetryref22_Join.l0 k1 l1 x6_1 ji14 (wrap64 (x8_1 + 1)) a0_0 a0_1)) = some (r1, r2, r3, r4, r5) := by rw [← hbq15] at H; exact H
       have Nbq15 := Aside0.mk hbq15
       clear hbq15
       by_cases c16 : bq15 = true
       ·subst c16
        (try rw [← Nbq15.out] at A12)   -- the truth in its place
        (try rw [← Nbq15.out] at A17)   -- the truth in its place
        (try rw [← Nbq15.out] at A18)   -- the truth in its place
        have H1 : ((marquetryref22_Read.f k1 a0_0 a0_1 ((rd_T31 l1 x8_1).f2)).bind fun bt270 => ((marquetryref22_Read.f k1 a0_0 a0_1 ((rd_T31 l1 x8_1).f3)).bind fun bt276 => ((some (([(⟨bt270.1, bt270.2.1, bt270.2.2.1⟩ : S29), (⟨bt276.1, bt276.2.1, bt276.2.2.1⟩ : S29)] : List (S29)) : List (S29))).bind fun y281 => (if x6_1.length + y281.length < 4398046511104 then (marquetryref22_Join.l0 k1 l1 (x6_1 ++ y281) ji14 (wrap64 (x8_1 + 1)) a0_0 a0_1) else (none))))) = some (r1, r2, r3, r4, r5) := by rw [if_pos rfl] at H; exact H
        clear H
        have H := H1
        clear H1
        replace H := Option.bind_eq_some_iff.mp H
        obtain ⟨⟨t270, t271, t272, t273⟩, A170, H⟩ := H
        replace H : ((marquetryref22_Read.f k1 a0_0 a0_1 ((rd_T31 l1 x8_1).f3)).bind fun bt276 => ((some (([(⟨t270, t271, t272⟩ : S29), (⟨bt276.1, bt276.2.1, bt276.2.2.1⟩ : S29)] : List (S29)) : List (S29))).bind fun y281 => (if x6_1.length + y281.length < 4398046511104 then (marquetryref22_Join.l0 k1 l1 (x6_1 ++ y281) ji14 (wrap64 (x8_1 + 1)) a0_0 a0_1) else (none)))) = some (r1, r2, r3, r4, r5) := H
        have A17 := Aside0.mk A170
        clear A170
        replace H := Option.bind_eq_some_iff.mp H
        obtain ⟨⟨t276, t277, t278, t279⟩, A180, H⟩ := H
        replace H : ((some (([(⟨t270, t271, t272⟩ : S29), (⟨t276, t277, t278⟩ : S29)] : List (S29)) : List (S29))).bind fun y281 => (if x6_1.length + y281.length < 4398046511104 then (marquetryref22_Join.l0 k1 l1 (x6_1 ++ y281) ji14 (wrap64 (x8_1 + 1)) a0_0 a0_1) else (none))) = some (r1, r2, r3, r4, r5) := H
        have A18 := Aside0.mk A180
        clear A180
        obtain ⟨y281, hy281⟩ : ∃ y_ : List (S29), y_ = (([(⟨t270, t271, t272⟩ : S29), (⟨t276, t277, t278⟩ : S29)] : List (S29))) := ⟨_, rfl⟩
        replace H : (if x6_1.length + y281.length < 4398046511104 then (marquetryref22_Join.l0 k1 l1 (x6_1 ++ y281) ji14 (wrap64 (x8_1 + 1)) a0_0 a0_1) else (none)) = some (r1, r2, r3, r4, r5) := by first | (rw [hy281]; with_reducible exact H) | (have H2_ := (Option.bind_some _ _).symm.trans H; rw [hy281]; with_reducible exact H2_) | (have H2_ := (Option.bind_some _ _).symm.trans H; with_reducible exact H2_) | with_reducible exact H | (rw [hy281]; exact H) | exact H
        have Ny281 := Aside0.mk hy281
        clear hy281
        by_cases c19 : x6_1.length + y281.length < 4398046511104
        ·rw [if_pos c19] at H
         have LMc19 := Aside0.mk c19
         clear c19
         obtain ⟨y284, hy284⟩ : ∃ y_ : List (S29), y_ = (x6_1 ++ y281) := ⟨_, rfl⟩
         replace H : (marquetryref22_Join.l0 k1 l1 y284 ji14 (wrap64 (x8_1 + 1)) a0_0 a0_1) = some (r1, r2, r3, r4, r5) := by first | (rw [hy284]; with_reducible exact H) | (have H2_ := (Option.bind_some _ _).symm.trans H; rw [hy284]; with_reducible exact H2_) | (have H2_ := (Option.bind_some _ _).symm.trans H; with_reducible exact H2_) | with_reducible exact H | (rw [hy284]; exact H) | exact H
         have Ny284 := Aside0.mk hy284
         clear hy284
         have H' := Aside0.mk H
         clear H
         try go_wp2
         have n0_ := Aside0.mk (Kd.R_drew HO_6.out)
         have n1_ := Aside0.mk (blk_drew BK258.out)
         have n2_ := Aside0.mk (blk_drew BK259.out)
         have n3_ := Aside0.mk (below_drew1 HB.out)
         clear HO_6
         clear BK258
         clear BK259
         clear HB
         have HO_6 := n0_
         have BK258 := n1_
         have BK259 := n2_
         have HB := n3_
         clear n0_ n1_ n2_ n3_
         have p265 : 0 ≤ (x8_1 : Int) := of_decide_eq_true (by first | (with_reducible assumption) | assumption)
         have q265 : x8_1 < (l1.length : Int) := of_decide_eq_true (by first | (with_reducible assumption) | assumption)
         obtain ⟨ad265, e265, hx265_0, hx265_1, hx265_2, hx265_3⟩ := at_T31 HR1.out x8_1 p265 q265
         have hw265_3 := hx265_3
         have hw265_2 := hx265_2
         have hw265_1 := hx265_1
         have hw265_0 := hx265_0
         (try rw [← Nbq15.out] at hx265_1)
         (try rw [← Nbq15.out] at hw265_1)
         cases e265
         replace hx265_0 := (HB.out.cell (World.block_lt_of_cell? w _ hx265_0)).trans hx265_0
         replace hx265_1 := (HB.out.cell (World.block_lt_of_cell? w _ hx265_1)).trans hx265_1
         replace hx265_2 := (HB.out.cell (World.block_lt_of_cell? w _ hx265_2)).trans hx265_2
         replace hx265_3 := (HB.out.cell (World.block_lt_of_cell? w _ hx265_3)).trans hx265_3
         replace p265 := eq_true p265
         replace q265 := eq_true q265
         refine start_ (n := 7) (S := fun w' => w'.cell? ⟨gb258, 0, none⟩ = some (.int .i64 a0_0) ∧ w'.cell? ⟨gb258, 1, none⟩ = some (.int .i64 a0_1) ∧ w'.cell? (ad265.add ((x8_1).toNat * 4)) = some (.int .i64 ((rd_T31 l1 x8_1).f0)) ∧ w'.cell? ⟨(ad265.add ((x8_1).toNat * 4)).block, (ad265.add ((x8_1).toNat * 4)).off + 1, none⟩ = some (.bool true) ∧ w'.cell? ⟨(ad265.add ((x8_1).toNat * 4)).block, (ad265.add ((x8_1).toNat * 4)).off + 2, none⟩ = some (.string ((rd_T31 l1 x8_1).f2)) ∧ w'.cell? ⟨(ad265.add ((x8_1).toNat * 4)).block, (ad265.add ((x8_1).toNat * 4)).off + 3, none⟩ = some (.string ((rd_T31 l1 x8_1).f3))) (ds := []) #[false, false, false, false, false, false, false] (by kernel_rfl) rfl rfl ⟨(blk_cell BK258.out 0).trans rfl, (blk_cell BK258.out 1).trans rfl, ((HB.out.cell (World.block_lt_of_cell? w _ hw265_0)).trans hw265_0), ((HB.out.cell (World.block_lt_of_cell? w _ hw265_1)).trans hw265_1), ((HB.out.cell (World.block_lt_of_cell? w _ hw265_2)).trans hw265_2), ((HB.out.cell (World.block_lt_of_cell? w _ hw265_3)).trans hw265_3)⟩ (fun hHeld => ?_)
         generalize wr.drew = w20 at HO_6 BK258 BK259 HB hx265_0 hx265_1 hx265_2 hx265_3 hHeld ⊢
         refine pure_ (i := 1) (N := some 24) (v := ?_) (a' := ?_) #[false, true, false, false, false, false, false] rfl rfl (by kernel_rfl) (fun _ _ _ h => h) (Or.inl ⟨by rfl, ?_⟩) ?_ ?_
         rotate_left
         ·intro w'
          go_simp
          with_reducible rfl
         rotate_left
         ·simp only [Act.put, List.setIfInBounds_toArray, List.set_cons_zero, List.set_cons_succ, i64_w, i32_w]
          rfl
         refine pure_ (i := 2) (N := some 25) (v := ?_) (a' := ?_) #[false, true, true, false, false, false, false] rfl rfl (by kernel_rfl) (fun _ _ _ h => h) (Or.inl ⟨by rfl, ?_⟩) ?_ ?_
         rotate_left
         ·intro w'
          go_simp
          with_reducible rfl
         rotate_left
         ·simp only [Act.put, List.setIfInBounds_toArray, List.set_cons_zero, List.set_cons_succ, i64_w, i32_w]
          rfl
         refine pure_ (i := 3) (N := some 26) (v := ?_) (a' := ?_) #[false, true, true, true, false, false, false] rfl rfl (by kernel_rfl) (fun _ _ _ h => h) (Or.inl ⟨by rfl, ?_⟩) ?_ ?_
         rotate_left
         ·intro w'
          go_simp
          with_reducible rfl
         rotate_left
         ·simp only [Act.put, List.setIfInBounds_toArray, List.set_cons_zero, List.set_cons_succ, i64_w, i32_w]
          rfl
         refine take_ (i := 0) (N := some 23) (v := ?_) (a' := ?_) #[true, true, true, true, false, false, false] rfl rfl (by kernel_rfl) (fun _ _ _ h => h) (Or.inl ⟨by rfl, ?_⟩) hHeld ?_ ?_
         rotate_left
         ·rintro w' ⟨s0, s1, s2, s3, s4, s5⟩
          go_simp
          with_reducible rfl
         rotate_left
         ·simp only [Act.put, List.setIfInBounds_toArray, List.set_cons_zero, List.set_cons_succ, i64_w, i32_w]
          rfl
         refine take_ (i := 4) (N := some 27) (v := ?_) (a' := ?_) #[true, true, true, true, true, false, false] rfl rfl (by kernel_rfl) (fun _ _ _ h => h) (Or.inl ⟨by rfl, ?_⟩) hHeld ?_ ?_
         rotate_left
         ·rintro w' ⟨s0, s1, s2, s3, s4, s5⟩
          go_simp
          with_reducible rfl
         rotate_left
         ·simp only [Act.put, List.setIfInBounds_toArray, List.set_cons_zero, List.set_cons_succ, i64_w, i32_w]
          rfl
         refine one_ (i := 5) (N := some 28) #[true, true, true, true, true, true, false] rfl rfl (by kernel_rfl) (by decide) (fun K hK => ?_)
         refine goes_ Try.func17 (by kernel_rfl) rfl #[.agg #[.int .i64 a0_0, .int .i64 a0_1], .agg #[.int .i64 ((rd_T31 l1 x8_1).f0), .bool true, .string ((rd_T31 l1 x8_1).f2), .string ((rd_T31 l1 x8_1).f3)]] (by rfl) rfl rfl (by (try simp only [List.map_toArray, List.map_cons, List.map_nil]); first | done | rfl | (simp only [List.length_drop, List.length_take]; rfl)) ?_
         with_reducible refine (marquetryref22_Check.calls k1 a0_0 a0_1 ((rd_T31 l1 x8_1).f0) true ((rd_T31 l1 x8_1).f2) ((rd_T31 l1 x8_1).f3) t266 _ A12.out).mono ?_
         rintro e w21 ⟨rfl, hb⟩
         refine ⟨_, rfl, ?_⟩
         have n0_ := Aside0.mk (Kd.R_below (by (with_reducible repeat (first | apply Kd.R_alloc | apply Kd.R_drewN | apply Kd.R_drew)); exact HO_6.out) hb)
         have n1_ := Aside0.mk (blk_below (g := gb258) (o := .cells #[.int .i64 a0_0, .int .i64 a0_1] 24 (0, 0)) (by (with_reducible repeat (first | refine blk_drewN ?_ _ | refine blk_drew ?_ | refine blk_alloc ?_ _)); exact BK258.out) hb)
         have n2_ := Aside0.mk (blk_below (g := gb259) (o := .cells #[.int .i64 x260000_1, .bool x260001_1, .string x260002_1, .string x260003_1] 31 (0, 0)) (by (with_reducible repeat (first | refine blk_drewN ?_ _ | refine blk_drew ?_ | refine blk_alloc ?_ _)); exact BK259.out) hb)
         have n3_ := Aside0.mk (below_step (by repeat (first | (with_reducible first | exact HB.out | apply below_alloc | apply pw_below_drewN | apply below_drew1 | refine below_set ?_ GE258.out | refine below_set ?_ GE259.out) | exact HB.out)) hb)
         clear HO_6
         clear BK258
         clear BK259
         clear HB
         have HO_6 := n0_
         have BK258 := n1_
         have BK259 := n2_
         have HB := n3_
         clear n0_ n1_ n2_ n3_
         (try clear hb)
         (try clear hb2)
         (try clear hk)
         (try clear hi)
         refine hK.out _ _ ⟨(blk_cell BK258.out 0).trans rfl, (blk_cell BK258.out 1).trans rfl, ((HB.out.cell (World.block_lt_of_cell? w _ hw265_0)).trans hw265_0), ((HB.out.cell (World.block_lt_of_cell? w _ hw265_1)).trans hw265_1), ((HB.out.cell (World.block_lt_of_cell? w _ hw265_2)).trans hw265_2), ((HB.out.cell (World.block_lt_of_cell? w _ hw265_3)).trans hw265_3)⟩ (fun hHeld => ?_)
         clear hK K
         refine norm_ (a' := ?_) ?_ ?_
         rotate_left
         ·show Act.put _ (some 28) _ = _
          simp only [Act.put, List.setIfInBounds_toArray, List.set_cons_zero, List.set_cons_succ, i64_w, i32_w]
          rfl
         refine pure_ (i := 6) (N := some 29) (v := ?_) (a' := ?_) #[true, true, true, true, true, true, true] rfl rfl (by kernel_rfl) (fun _ _ _ h => h) (Or.inl ⟨by rfl, ?_⟩) ?_ ?_
         rotate_left
         ·intro w'
          go_simp
          with_reducible rfl
         rotate_left
         ·simp only [Act.put, List.setIfInBounds_toArray, List.set_cons_zero, List.set_cons_succ, i64_w, i32_w]
          rfl
         refine done_ (by kernel_rfl) ?_
         have p267 : 0 ≤ (x8_1 : Int) := of_decide_eq_true (by first | (with_reducible assumption) | assumption)
         have q267 : x8_1 < (l1.length : Int) := of_decide_eq_true (by first | (with_reducible assumption) | assumption)
         obtain ⟨ad267, e267, hx267_0, hx267_1, hx267_2, hx267_3⟩ := at_T31 HR1.out x8_1 p267 q267
         (try rw [← Nbq15.out] at hx267_1)
         (try rw [← Nbq15.out] at hw267_1)
         obtain rfl : ad265 = ad267 := (by injection e267)
         replace hx267_0 := (HB.out.cell (World.block_lt_of_cell? w _ hx267_0)).trans hx267_0
         replace hx267_1 := (HB.out.cell (World.block_lt_of_cell? w _ hx267_1)).trans hx267_1
         replace hx267_2 := (HB.out.cell (World.block_lt_of_cell? w _ hx267_2)).trans hx267_2
         replace hx267_3 := (HB.out.cell (World.block_lt_of_cell? w _ hx267_3)).trans hx267_3
         replace p267 := eq_true p267
         replace q267 := eq_true q267
         have p268 : 0 ≤ (x8_1 : Int) := of_decide_eq_true (by first | (with_reducible assumption) | assumption)
         have q268 : x8_1 < (l1.length : Int) := of_decide_eq_true (by first | (with_reducible assumption) | assumption)
         obtain ⟨ad268, e268, hx268_0, hx268_1, hx268_2, hx268_3⟩ := at_T31 HR1.out x8_1 p268 q268
         (try rw [← Nbq15.out] at hx268_1)
         (try rw [← Nbq15.out] at hw268_1)
         obtain rfl : ad265 = ad268 := (by injection e268)
         replace hx268_0 := (HB.out.cell (World.block_lt_of_cell? w _ hx268_0)).trans hx268_0
         replace hx268_1 := (HB.out.cell (World.block_lt_of_cell? w _ hx268_1)).trans hx268_1
         replace hx268_2 := (HB.out.cell (World.block_lt_of_cell? w _ hx268_2)).trans hx268_2
         replace hx268_3 := (HB.out.cell (World.block_lt_of_cell? w _ hx268_3)).trans hx268_3
         replace p268 := eq_true p268
         replace q268 := eq_true q268
         try go_wp2
         have n0_ := Aside0.mk (Kd.R_drew HO_6.out)
         have n1_ := Aside0.mk (blk_drew BK258.out)
         have n2_ := Aside0.mk (blk_drew BK259.out)
         have n3_ := Aside0.mk (below_drew1 HB.out)
         clear HO_6
         clear BK258
         clear BK259
         clear HB
         have HO_6 := n0_
         have BK258 := n1_
         have BK259 := n2_
         have HB := n3_
         clear n0_ n1_ n2_ n3_
         have p269 : 0 ≤ (x8_1 : Int) := of_decide_eq_true (by first | (with_reducible assumption) | assumption)
         have q269 : x8_1 < (l1.length : Int) := of_decide_eq_true (by first | (with_reducible assumption) | assumption)
         obtain ⟨ad269, e269, hx269_0, hx269_1, hx269_2, hx269_3⟩ := at_T31 HR1.out x8_1 p269 q269
         have hw269_3 := hx269_3
         have hw269_2 := hx269_2
         have hw269_1 := hx269_1
         have hw269_0 := hx269_0
         (try rw [← Nbq15.out] at hx269_1)
         (try rw [← Nbq15.out] at hw269_1)
         obtain rfl : ad265 = ad269 := (by injection e269)
         replace hx269_0 := (HB.out.cell (World.block_lt_of_cell? w _ hx269_0)).trans hx269_0
         replace hx269_1 := (HB.out.cell (World.block_lt_of_cell? w _ hx269_1)).trans hx269_1
         replace hx269_2 := (HB.out.cell (World.block_lt_of_cell? w _ hx269_2)).trans hx269_2
         replace hx269_3 := (HB.out.cell (World.block_lt_of_cell? w _ hx269_3)).trans hx269_3
         replace p269 := eq_true p269
         replace q269 := eq_true q269
         refine start_ (n := 13) (S := fun w' => w'.cell? ⟨gb258, 0, none⟩ = some (.int .i64 a0_0) ∧ w'.cell? ⟨gb258, 1, none⟩ = some (.int .i64 a0_1) ∧ w'.cell? (ad265.add ((x8_1).toNat * 4)) = some (.int .i64 ((rd_T31 l1 x8_1).f0)) ∧ w'.cell? ⟨(ad265.add ((x8_1).toNat * 4)).block, (ad265.add ((x8_1).toNat * 4)).off + 1, none⟩ = some (.bool (true)) ∧ w'.cell? ⟨(ad265.add ((x8_1).toNat * 4)).block, (ad265.add ((x8_1).toNat * 4)).off + 2, none⟩ = some (.string ((rd_T31 l1 x8_1).f2)) ∧ w'.cell? ⟨(ad265.add ((x8_1).toNat * 4)).block, (ad265.add ((x8_1).toNat * 4)).off + 3, none⟩ = some (.string ((rd_T31 l1 x8_1).f3))) (ds := []) #[false, false, false, false, false, false, false, false, false, false, false, false, false] (by kernel_rfl) rfl rfl ⟨(blk_cell BK258.out 0).trans rfl, (blk_cell BK258.out 1).trans rfl, ((HB.out.cell (World.block_lt_of_cell? w _ hw269_0)).trans hw269_0), ((HB.out.cell (World.block_lt_of_cell? w _ hw269_1)).trans hw269_1), ((HB.out.cell (World.block_lt_of_cell? w _ hw269_2)).trans hw269_2), ((HB.out.cell (World.block_lt_of_cell? w _ hw269_3)).trans hw269_3)⟩ (fun hHeld => ?_); refine with_tabW marquetryref22_Join.tab12 marquetryref22_Join.bits12 (fun HT_ HW_ => ?_)
         generalize w21.drew = w22 at HO_6 BK258 BK259 HB hx269_0 hx269_1 hx269_2 hx269_3 hHeld ⊢
         refine pure_ (i := 1) (N := some 46) (v := ?_) (a' := ?_) #[false, true, false, false, false, false, false, false, false, false, false, false, false] rfl rfl (any_of HT_.out (by kernel_rfl)) (fun _ _ _ h => h) (Or.inl ⟨by rfl, ?_⟩) ?_ ?_
         rotate_left
         ·intro w'
          go_simp
          with_reducible rfl
         rotate_left
         ·simp only [Act.put, List.setIfInBounds_toArray, List.set_cons_zero, List.set_cons_succ, i64_w, i32_w]
          rfl
         refine pure_ (i := 2) (N := some 47) (v := ?_) (a' := ?_) #[false, true, true, false, false, false, false, false, false, false, false, false, false] rfl rfl (any_of HT_.out (by kernel_rfl)) (fun _ _ _ h => h) (Or.inl ⟨by rfl, ?_⟩) ?_ ?_
         rotate_left
         ·intro w'
          go_simp
          with_reducible rfl
         rotate_left
         ·simp only [Act.put, List.setIfInBounds_toArray, List.set_cons_zero, List.set_cons_succ, i64_w, i32_w]
          rfl
         refine pure_ (i := 3) (N := some 48) (v := ?_) (a' := ?_) #[false, true, true, true, false, false, false, false, false, false, false, false, false] rfl rfl (any_of HT_.out (by kernel_rfl)) (fun _ _ _ h => h) (Or.inl ⟨by rfl, ?_⟩) ?_ ?_
         rotate_left
         ·intro w'
          go_simp
          with_reducible rfl
         rotate_left
         ·simp only [Act.put, List.setIfInBounds_toArray, List.set_cons_zero, List.set_cons_succ, i64_w, i32_w]
          rfl
         refine pure_ (i := 4) (N := some 49) (v := ?_) (a' := ?_) #[false, true, true, true, true, false, false, false, false, false, false, false, false] rfl rfl (any_of HT_.out (by kernel_rfl)) (fun _ _ _ h => h) (Or.inl ⟨by rfl, ?_⟩) ?_ ?_
         rotate_left
         ·intro w'
          go_simp
          with_reducible rfl
         rotate_left
         ·simp only [Act.put, List.setIfInBounds_toArray, List.set_cons_zero, List.set_cons_succ, i64_w, i32_w]
          rfl
         refine take_ (i := 0) (N := some 45) (v := ?_) (a' := ?_) #[true, true, true, true, true, false, false, false, false, false, false, false, false] rfl rfl (take_ofW HT_.out HW_.out (by kernel_rfl)) (fun _ _ _ h => h) (Or.inl ⟨by rfl, ?_⟩) hHeld ?_ ?_
         rotate_left
         ·rintro w' ⟨s0, s1, s2, s3, s4, s5⟩
          go_simp
          with_reducible rfl
         rotate_left
         ·simp only [Act.put, List.setIfInBounds_toArray, List.set_cons_zero, List.set_cons_succ, i64_w, i32_w]
          rfl
         refine take_ (i := 5) (N := some 50) (v := ?_) (a' := ?_) #[true, true, true, true, true, true, false, false, false, false, false, false, false] rfl rfl (take_ofW HT_.out HW_.out (by kernel_rfl)) (fun _ _ _ h => h) (Or.inl ⟨by rfl, ?_⟩) hHeld ?_ ?_
         rotate_left
         ·rintro w' ⟨s0, s1, s2, s3, s4, s5⟩
          go_simp
          with_reducible rfl
         rotate_left
         ·simp only [Act.put, List.setIfInBounds_toArray, List.set_cons_zero, List.set_cons_succ, i64_w, i32_w]
          rfl
         refine join_ (σ := Nat) 2 #[true, true, true, true, true, true, true, true, true, true, true, false, false] (fun s_ => [(51, .tuple #[.agg #[.int .i64 t270, .int .i64 t271, .string t272], .int .i64 t273]), (9, .pointer (some ⟨s_, 0, none⟩)), (44, .tuple #[.agg #[.int .i64 t270, .int .i64 t271, .string t272], .int .i64 t273]), (52, .agg #[.int .i64 t270, .int .i64 t271, .string t272]), (53, .int .i64 t273)]) (fun s_ w' => (w'.cell? ⟨gb258, 0, none⟩ = some (.int .i64 a0_0) ∧ w'.cell? ⟨gb258, 1, none⟩ = some (.int .i64 a0_1) ∧ w'.cell? (ad265.add ((x8_1).toNat * 4)) = some (.int .i64 ((rd_T31 l1 x8_1).f0)) ∧ w'.cell? ⟨(ad265.add ((x8_1).toNat * 4)).block, (ad265.add ((x8_1).toNat * 4)).off + 1, none⟩ = some (.bool (true)) ∧ w'.cell? ⟨(ad265.add ((x8_1).toNat * 4)).block, (ad265.add ((x8_1).toNat * 4)).off + 2, none⟩ = some (.string ((rd_T31 l1 x8_1).f2)) ∧ w'.cell? ⟨(ad265.add ((x8_1).toNat * 4)).block, (ad265.add ((x8_1).toNat * 4)).off + 3, none⟩ = some (.string ((rd_T31 l1 x8_1).f3))) ∧ (Kd.R k29 29 w' w.heap.size (fun k_ => k_ ≠ s_) u6 x6_1) ∧ (w'.heap[gb258]? = some (.cells #[.int .i64 a0_0, .int .i64 a0_1] 24 (0, 0))) ∧ (w'.heap[gb259]? = some (.cells #[.int .i64 x260000_1, .bool x260001_1, .string x260002_1, .string x260003_1] 31 (0, 0))) ∧ (w'.heap[s_]? = some (.cells #[.int .i64 0, .int .i64 0, .string (⟨#[]⟩ : ByteArray)] 29 (0, 0))) ∧ (w.heap.size ≤ s_) ∧ (w.heap.size ≤ s_) ∧ (gb258 ≠ s_) ∧ (s_ ≠ gb258) ∧ (gb259 ≠ s_) ∧ (s_ ≠ gb259) ∧ (Below w.heap.size w w')) ?_ ?_
         rotate_left
         ·intro hCont
          refine two_ (i := 6) (j := 10) (Ni := some 51) (Nj := some 9) #[true, true, true, true, true, true, true, false, false, false, false, false, false] #[true, true, true, true, true, true, false, false, false, false, true, false, false] rfl rfl rfl rfl (two_of HT_.out (by kernel_rfl)) (by decide) (by decide) (fun K hK => ?_) (fun K hK => ?_)
          ·skip
           refine goes_ Try.func19 (by kernel_rfl) rfl #[.agg #[.int .i64 a0_0, .int .i64 a0_1], .string ((rd_T31 l1 x8_1).f2)] (by rfl) rfl rfl (by (try simp only [List.map_toArray, List.map_cons, List.map_nil]); first | done | rfl | (simp only [List.length_drop, List.length_take]; rfl)) ?_
           with_reducible refine (marquetryref22_Read.calls k1 a0_0 a0_1 ((rd_T31 l1 x8_1).f2) t270 t271 t272 t273 _ A17.out).mono ?_
           rintro e w23 ⟨rfl, hb⟩
           refine ⟨_, rfl, ?_⟩
           have n0_ := Aside0.mk (Kd.R_below (by (with_reducible repeat (first | apply Kd.R_alloc | apply Kd.R_drewN | apply Kd.R_drew)); exact HO_6.out) hb)
           have n1_ := Aside0.mk (blk_below (g := gb258) (o := .cells #[.int .i64 a0_0, .int .i64 a0_1] 24 (0, 0)) (by (with_reducible repeat (first | refine blk_drewN ?_ _ | refine blk_drew ?_ | refine blk_alloc ?_ _)); exact BK258.out) hb)
           have n2_ := Aside0.mk (blk_below (g := gb259) (o := .cells #[.int .i64 x260000_1, .bool x260001_1, .string x260002_1, .string x260003_1] 31 (0, 0)) (by (with_reducible repeat (first | refine blk_drewN ?_ _ | refine blk_drew ?_ | refine blk_alloc ?_ _)); exact BK259.out) hb)
           have n3_ := Aside0.mk (below_step (by repeat (first | (with_reducible first | exact HB.out | apply below_alloc | apply pw_below_drewN | apply below_drew1 | refine below_set ?_ GE258.out | refine below_set ?_ GE259.out) | exact HB.out)) hb)
           clear HO_6
           clear BK258
           clear BK259
           clear HB
           have HO_6 := n0_
           have BK258 := n1_
           have BK259 := n2_
           have HB := n3_
           clear n0_ n1_ n2_ n3_
           (try clear hb)
           (try clear hb2)
           (try clear hk)
           (try clear hi)
           refine hK.out _ _ ⟨(blk_cell BK258.out 0).trans rfl, (blk_cell BK258.out 1).trans rfl, ((HB.out.cell (World.block_lt_of_cell? w _ hw269_0)).trans hw269_0), ((HB.out.cell (World.block_lt_of_cell? w _ hw269_1)).trans hw269_1), ((HB.out.cell (World.block_lt_of_cell? w _ hw269_2)).trans hw269_2), ((HB.out.cell (World.block_lt_of_cell? w _ hw269_3)).trans hw269_3)⟩ (fun hHeld => ?_)
           clear hK K
           refine norm_ (a' := ?_) ?_ ?_
           rotate_left
           ·show Act.put _ (some 51) _ = _
            simp only [Act.put, List.setIfInBounds_toArray, List.set_cons_zero, List.set_cons_succ, i64_w, i32_w]
            rfl
           refine pure_ (i := 7) (N := some 44) (v := ?_) (a' := ?_) #[true, true, true, true, true, true, true, true, false, false, false, false, false] rfl rfl (any_of HT_.out (by kernel_rfl)) (fun _ _ _ h => h) (Or.inl ⟨by rfl, ?_⟩) ?_ ?_
           rotate_left
           ·intro w'
            go_simp
            with_reducible rfl
           rotate_left
           ·simp only [Act.put, List.setIfInBounds_toArray, List.set_cons_zero, List.set_cons_succ, i64_w, i32_w]
            rfl
           refine pure_ (i := 8) (N := some 52) (v := ?_) (a' := ?_) #[true, true, true, true, true, true, true, true, true, false, false, false, false] rfl rfl (any_of HT_.out (by kernel_rfl)) (fun _ _ _ h => h) (Or.inl ⟨by rfl, ?_⟩) ?_ ?_
           rotate_left
           ·intro w'
            go_simp
            with_reducible rfl
           rotate_left
           ·simp only [Act.put, List.setIfInBounds_toArray, List.set_cons_zero, List.set_cons_succ, i64_w, i32_w]
            rfl
           refine pure_ (i := 9) (N := some 53) (v := ?_) (a' := ?_) #[true, true, true, true, true, true, true, true, true, true, false, false, false] rfl rfl (any_of HT_.out (by kernel_rfl)) (fun _ _ _ h => h) (Or.inl ⟨by rfl, ?_⟩) ?_ ?_
           rotate_left
           ·intro w'
            go_simp
            with_reducible rfl
           rotate_left
           ·simp only [Act.put, List.setIfInBounds_toArray, List.set_cons_zero, List.set_cons_succ, i64_w, i32_w]
            rfl
           refine one_ (i := 10) (N := some 9) #[true, true, true, true, true, true, true, true, true, true, true, false, false] rfl rfl (one_of HT_.out (by kernel_rfl)) (by decide) (fun K hK => ?_)
           refine box_step ?hg (N := 9) ?hd (cs := #[.int .i64 0, .int .i64 0, .string (⟨#[]⟩ : ByteArray)]) (t := 29) ?hr ?_; (case hd => rfl); (case hg => rfl); (case hr => first | (go_simp; done) | (go_simp; rfl))
           intro gb274 hg w24 hbox hb
           have n0_ := Aside0.mk (Kd.R_below (Kd.R_elderB (by (with_reducible repeat (first | apply Kd.R_alloc | apply Kd.R_drewN | apply Kd.R_drew)); exact HO_6.out) gb274 (Nat.le_of_eq hg.symm)) hb)
           have n1_ := Aside0.mk (blk_below (g := gb258) (o := .cells #[.int .i64 a0_0, .int .i64 a0_1] 24 (0, 0)) (by (with_reducible repeat (first | refine blk_drewN ?_ _ | refine blk_drew ?_ | refine blk_alloc ?_ _)); exact BK258.out) hb)
           have n2_ := Aside0.mk (blk_below (g := gb259) (o := .cells #[.int .i64 x260000_1, .bool x260001_1, .string x260002_1, .string x260003_1] 31 (0, 0)) (by (with_reducible repeat (first | refine blk_drewN ?_ _ | refine blk_drew ?_ | refine blk_alloc ?_ _)); exact BK259.out) hb)
           have n3_ := Aside0.mk (below_step (by repeat (first | (with_reducible first | exact HB.out | apply below_alloc | apply pw_below_drewN | apply below_drew1 | refine below_set ?_ GE258.out | refine below_set ?_ GE259.out) | exact HB.out)) hb)
           have n4_ := Aside0.mk (hbox)
           have n5_ := Aside0.mk ((by rw [hg]; exact (below_size (by repeat (first | (with_reducible first | exact HB.out | apply below_alloc | apply pw_below_drewN | apply below_drew1 | refine below_set ?_ GE258.out | refine below_set ?_ GE259.out) | exact HB.out))) : w.heap.size ≤ gb274))
           have n6_ := Aside0.mk ((by rw [hg]; exact (below_size (by repeat (first | (with_reducible first | exact HB.out | apply below_alloc | apply pw_below_drewN | apply below_drew1 | refine below_set ?_ GE258.out | refine below_set ?_ GE259.out) | exact HB.out))) : w.heap.size ≤ gb274))
           have n7_ := Aside0.mk ((by rw [hg]; exact Nat.ne_of_lt (blk_lt (g := gb258) (o := .cells #[.int .i64 a0_0, .int .i64 a0_1] 24 (0, 0)) (by (with_reducible repeat (first | refine blk_drewN ?_ _ | refine blk_drew ?_ | refine blk_alloc ?_ _)); exact BK258.out)) : gb258 ≠ gb274))
           have n8_ := Aside0.mk ((by rw [hg]; exact Nat.ne_of_gt (blk_lt (g := gb258) (o := .cells #[.int .i64 a0_0, .int .i64 a0_1] 24 (0, 0)) (by (with_reducible repeat (first | refine blk_drewN ?_ _ | refine blk_drew ?_ | refine blk_alloc ?_ _)); exact BK258.out)) : gb274 ≠ gb258))
           have n9_ := Aside0.mk ((by rw [hg]; exact Nat.ne_of_lt (blk_lt (g := gb259) (o := .cells #[.int .i64 x260000_1, .bool x260001_1, .string x260002_1, .string x260003_1] 31 (0, 0)) (by (with_reducible repeat (first | refine blk_drewN ?_ _ | refine blk_drew ?_ | refine blk_alloc ?_ _)); exact BK259.out)) : gb259 ≠ gb274))
           have n10_ := Aside0.mk ((by rw [hg]; exact Nat.ne_of_gt (blk_lt (g := gb259) (o := .cells #[.int .i64 x260000_1, .bool x260001_1, .string x260002_1, .string x260003_1] 31 (0, 0)) (by (with_reducible repeat (first | refine blk_drewN ?_ _ | refine blk_drew ?_ | refine blk_alloc ?_ _)); exact BK259.out)) : gb274 ≠ gb259))
           clear HO_6
           clear BK258
           clear BK259
           clear HB
           have HO_6 := n0_
           have BK258 := n1_
           have BK259 := n2_
           have HB := n3_
           have BK274 := n4_
           have GW274 := n5_
           have GE274 := n6_
           have NB258_274 := n7_
           have NB274_258 := n8_
           have NB259_274 := n9_
           have NB274_259 := n10_
           clear n0_ n1_ n2_ n3_ n4_ n5_ n6_ n7_ n8_ n9_ n10_
           clear hb hbox hg
           refine hK.out _ _ ⟨(blk_cell BK258.out 0).trans rfl, (blk_cell BK258.out 1).trans rfl, ((HB.out.cell (World.block_lt_of_cell? w _ hw269_0)).trans hw269_0), ((HB.out.cell (World.block_lt_of_cell? w _ hw269_1)).trans hw269_1), ((HB.out.cell (World.block_lt_of_cell? w _ hw269_2)).trans hw269_2), ((HB.out.cell (World.block_lt_of_cell? w _ hw269_3)).trans hw269_3)⟩ (fun hHeld => ?_)
           clear hK K
           refine norm_ (a' := ?_) ?_ ?_
           rotate_left
           ·show Act.put _ (some 9) _ = _
            simp only [Act.put, List.setIfInBounds_toArray, List.set_cons_zero, List.set_cons_succ, i64_w, i32_w]
            rfl
           exact norm_ (by simp only [putAll, Act.put, List.setIfInBounds_toArray, List.set_cons_zero, List.set_cons_succ]) (hCont (gb274) _ ⟨hHeld, (by (with_reducible repeat (first | apply Kd.R_alloc | apply Kd.R_drewN | apply Kd.R_drew)); exact Kd.R_mono HO_6.out (fun _ hk => hk.2)), (by (with_reducible repeat (first | refine blk_drewN ?_ _ | refine blk_drew ?_ | refine blk_alloc ?_ _)); exact BK258.out), (by (with_reducible repeat (first | refine blk_drewN ?_ _ | refine blk_drew ?_ | refine blk_alloc ?_ _)); exact BK259.out), (by (with_reducible repeat (first | refine blk_drewN ?_ _ | refine blk_drew ?_ | refine blk_alloc ?_ _)); exact BK274.out), GW274.out, GE274.out, NB258_274.out, NB274_258.out, NB259_274.out, NB274_259.out, (by repeat (first | (with_reducible first | exact HB.out | apply below_alloc | apply pw_below_drewN | apply below_drew1 | refine below_set ?_ GE258.out | refine below_set ?_ GE259.out | refine below_set ?_ GE274.out) | exact HB.out))⟩)
          ·skip
           refine box_step ?hg (N := 9) ?hd (cs := #[.int .i64 0, .int .i64 0, .string (⟨#[]⟩ : ByteArray)]) (t := 29) ?hr ?_; (case hd => rfl); (case hg => rfl); (case hr => first | (go_simp; done) | (go_simp; rfl))
           intro gb274 hg w23 hbox hb
           have n0_ := Aside0.mk (Kd.R_below (Kd.R_elderB (by (with_reducible repeat (first | apply Kd.R_alloc | apply Kd.R_drewN | apply Kd.R_drew)); exact HO_6.out) gb274 (Nat.le_of_eq hg.symm)) hb)
           have n1_ := Aside0.mk (blk_below (g := gb258) (o := .cells #[.int .i64 a0_0, .int .i64 a0_1] 24 (0, 0)) (by (with_reducible repeat (first | refine blk_drewN ?_ _ | refine blk_drew ?_ | refine blk_alloc ?_ _)); exact BK258.out) hb)
           have n2_ := Aside0.mk (blk_below (g := gb259) (o := .cells #[.int .i64 x260000_1, .bool x260001_1, .string x260002_1, .string x260003_1] 31 (0, 0)) (by (with_reducible repeat (first | refine blk_drewN ?_ _ | refine blk_drew ?_ | refine blk_alloc ?_ _)); exact BK259.out) hb)
           have n3_ := Aside0.mk (below_step (by repeat (first | (with_reducible first | exact HB.out | apply below_alloc | apply pw_below_drewN | apply below_drew1 | refine below_set ?_ GE258.out | refine below_set ?_ GE259.out) | exact HB.out)) hb)
           have n4_ := Aside0.mk (hbox)
           have n5_ := Aside0.mk ((by rw [hg]; exact (below_size (by repeat (first | (with_reducible first | exact HB.out | apply below_alloc | apply pw_below_drewN | apply below_drew1 | refine below_set ?_ GE258.out | refine below_set ?_ GE259.out) | exact HB.out))) : w.heap.size ≤ gb274))
           have n6_ := Aside0.mk ((by rw [hg]; exact (below_size (by repeat (first | (with_reducible first | exact HB.out | apply below_alloc | apply pw_below_drewN | apply below_drew1 | refine below_set ?_ GE258.out | refine below_set ?_ GE259.out) | exact HB.out))) : w.heap.size ≤ gb274))
           have n7_ := Aside0.mk ((by rw [hg]; exact Nat.ne_of_lt (blk_lt (g := gb258) (o := .cells #[.int .i64 a0_0, .int .i64 a0_1] 24 (0, 0)) (by (with_reducible repeat (first | refine blk_drewN ?_ _ | refine blk_drew ?_ | refine blk_alloc ?_ _)); exact BK258.out)) : gb258 ≠ gb274))
           have n8_ := Aside0.mk ((by rw [hg]; exact Nat.ne_of_gt (blk_lt (g := gb258) (o := .cells #[.int .i64 a0_0, .int .i64 a0_1] 24 (0, 0)) (by (with_reducible repeat (first | refine blk_drewN ?_ _ | refine blk_drew ?_ | refine blk_alloc ?_ _)); exact BK258.out)) : gb274 ≠ gb258))
           have n9_ := Aside0.mk ((by rw [hg]; exact Nat.ne_of_lt (blk_lt (g := gb259) (o := .cells #[.int .i64 x260000_1, .bool x260001_1, .string x260002_1, .string x260003_1] 31 (0, 0)) (by (with_reducible repeat (first | refine blk_drewN ?_ _ | refine blk_drew ?_ | refine blk_alloc ?_ _)); exact BK259.out)) : gb259 ≠ gb274))
           have n10_ := Aside0.mk ((by rw [hg]; exact Nat.ne_of_gt (blk_lt (g := gb259) (o := .cells #[.int .i64 x260000_1, .bool x260001_1, .string x260002_1, .string x260003_1] 31 (0, 0)) (by (with_reducible repeat (first | refine blk_drewN ?_ _ | refine blk_drew ?_ | refine blk_alloc ?_ _)); exact BK259.out)) : gb274 ≠ gb259))
           clear HO_6
           clear BK258
           clear BK259
           clear HB
           have HO_6 := n0_
           have BK258 := n1_
           have BK259 := n2_
           have HB := n3_
           have BK274 := n4_
           have GW274 := n5_
           have GE274 := n6_
           have NB258_274 := n7_
           have NB274_258 := n8_
           have NB259_274 := n9_
           have NB274_259 := n10_
           clear n0_ n1_ n2_ n3_ n4_ n5_ n6_ n7_ n8_ n9_ n10_
           clear hb hbox hg
           refine hK.out _ _ ⟨(blk_cell BK258.out 0).trans rfl, (blk_cell BK258.out 1).trans rfl, ((HB.out.cell (World.block_lt_of_cell? w _ hw269_0)).trans hw269_0), ((HB.out.cell (World.block_lt_of_cell? w _ hw269_1)).trans hw269_1), ((HB.out.cell (World.block_lt_of_cell? w _ hw269_2)).trans hw269_2), ((HB.out.cell (World.block_lt_of_cell? w _ hw269_3)).trans hw269_3)⟩ (fun hHeld => ?_)
           clear hK K
           refine norm_ (a' := ?_) ?_ ?_
           rotate_left
           ·show Act.put _ (some 9) _ = _
            simp only [Act.put, List.setIfInBounds_toArray, List.set_cons_zero, List.set_cons_succ, i64_w, i32_w]
            rfl
           refine one_ (i := 6) (N := some 51) #[true, true, true, true, true, true, true, false, false, false, true, false, false] rfl rfl (one_of HT_.out (by kernel_rfl)) (by decide) (fun K hK => ?_)
           refine goes_ Try.func19 (by kernel_rfl) rfl #[.agg #[.int .i64 a0_0, .int .i64 a0_1], .string ((rd_T31 l1 x8_1).f2)] (by rfl) rfl rfl (by (try simp only [List.map_toArray, List.map_cons, List.map_nil]); first | done | rfl | (simp only [List.length_drop, List.length_take]; rfl)) ?_
           with_reducible refine (marquetryref22_Read.calls k1 a0_0 a0_1 ((rd_T31 l1 x8_1).f2) t270 t271 t272 t273 _ A17.out).mono ?_
           rintro e w24 ⟨rfl, hb⟩
           refine ⟨_, rfl, ?_⟩
           have n0_ := Aside0.mk (Kd.R_below (by (with_reducible repeat (first | apply Kd.R_alloc | apply Kd.R_drewN | apply Kd.R_drew)); exact HO_6.out) hb)
           have n1_ := Aside0.mk (blk_below (g := gb258) (o := .cells #[.int .i64 a0_0, .int .i64 a0_1] 24 (0, 0)) (by (with_reducible repeat (first | refine blk_drewN ?_ _ | refine blk_drew ?_ | refine blk_alloc ?_ _)); exact BK258.out) hb)
           have n2_ := Aside0.mk (blk_below (g := gb259) (o := .cells #[.int .i64 x260000_1, .bool x260001_1, .string x260002_1, .string x260003_1] 31 (0, 0)) (by (with_reducible repeat (first | refine blk_drewN ?_ _ | refine blk_drew ?_ | refine blk_alloc ?_ _)); exact BK259.out) hb)
           have n3_ := Aside0.mk (blk_below (g := gb274) (o := .cells #[.int .i64 0, .int .i64 0, .string (⟨#[]⟩ : ByteArray)] 29 (0, 0)) (by (with_reducible repeat (first | refine blk_drewN ?_ _ | refine blk_drew ?_ | refine blk_alloc ?_ _)); exact BK274.out) hb)
           have n4_ := Aside0.mk (below_step (by repeat (first | (with_reducible first | exact HB.out | apply below_alloc | apply pw_below_drewN | apply below_drew1 | refine below_set ?_ GE258.out | refine below_set ?_ GE259.out | refine below_set ?_ GE274.out) | exact HB.out)) hb)
           clear HO_6
           clear BK258
           clear BK259
           clear BK274
           clear HB
           have HO_6 := n0_
           have BK258 := n1_
           have BK259 := n2_
           have BK274 := n3_
           have HB := n4_
           clear n0_ n1_ n2_ n3_ n4_
           (try clear hb)
           (try clear hb2)
           (try clear hk)
           (try clear hi)
           refine hK.out _ _ ⟨(blk_cell BK258.out 0).trans rfl, (blk_cell BK258.out 1).trans rfl, ((HB.out.cell (World.block_lt_of_cell? w _ hw269_0)).trans hw269_0), ((HB.out.cell (World.block_lt_of_cell? w _ hw269_1)).trans hw269_1), ((HB.out.cell (World.block_lt_of_cell? w _ hw269_2)).trans hw269_2), ((HB.out.cell (World.block_lt_of_cell? w _ hw269_3)).trans hw269_3)⟩ (fun hHeld => ?_)
           clear hK K
           refine norm_ (a' := ?_) ?_ ?_
           rotate_left
           ·show Act.put _ (some 51) _ = _
            simp only [Act.put, List.setIfInBounds_toArray, List.set_cons_zero, List.set_cons_succ, i64_w, i32_w]
            rfl
           refine pure_ (i := 7) (N := some 44) (v := ?_) (a' := ?_) #[true, true, true, true, true, true, true, true, false, false, true, false, false] rfl rfl (any_of HT_.out (by kernel_rfl)) (fun _ _ _ h => h) (Or.inl ⟨by rfl, ?_⟩) ?_ ?_
           rotate_left
           ·intro w'
            go_simp
            with_reducible rfl
           rotate_left
           ·simp only [Act.put, List.setIfInBounds_toArray, List.set_cons_zero, List.set_cons_succ, i64_w, i32_w]
            rfl
           refine pure_ (i := 8) (N := some 52) (v := ?_) (a' := ?_) #[true, true, true, true, true, true, true, true, true, false, true, false, false] rfl rfl (any_of HT_.out (by kernel_rfl)) (fun _ _ _ h => h) (Or.inl ⟨by rfl, ?_⟩) ?_ ?_
           rotate_left
           ·intro w'
            go_simp
            with_reducible rfl
           rotate_left
           ·simp only [Act.put, List.setIfInBounds_toArray, List.set_cons_zero, List.set_cons_succ, i64_w, i32_w]
            rfl
           refine pure_ (i := 9) (N := some 53) (v := ?_) (a' := ?_) #[true, true, true, true, true, true, true, true, true, true, true, false, false] rfl rfl (any_of HT_.out (by kernel_rfl)) (fun _ _ _ h => h) (Or.inl ⟨by rfl, ?_⟩) ?_ ?_
           rotate_left
           ·intro w'
            go_simp
            with_reducible rfl
           rotate_left
           ·simp only [Act.put, List.setIfInBounds_toArray, List.set_cons_zero, List.set_cons_succ, i64_w, i32_w]
            rfl
           exact norm_ (by simp only [putAll, Act.put, List.setIfInBounds_toArray, List.set_cons_zero, List.set_cons_succ]) (hCont (gb274) _ ⟨hHeld, (by (with_reducible repeat (first | apply Kd.R_alloc | apply Kd.R_drewN | apply Kd.R_drew)); exact Kd.R_mono HO_6.out (fun _ hk => hk.2)), (by (with_reducible repeat (first | refine blk_drewN ?_ _ | refine blk_drew ?_ | refine blk_alloc ?_ _)); exact BK258.out), (by (with_reducible repeat (first | refine blk_drewN ?_ _ | refine blk_drew ?_ | refine blk_alloc ?_ _)); exact BK259.out), (by (with_reducible repeat (first | refine blk_drewN ?_ _ | refine blk_drew ?_ | refine blk_alloc ?_ _)); exact BK274.out), GW274.out, GE274.out, NB258_274.out, NB274_258.out, NB259_274.out, NB274_259.out, (by repeat (first | (with_reducible first | exact HB.out | apply below_alloc | apply pw_below_drewN | apply below_drew1 | refine below_set ?_ GE258.out | refine below_set ?_ GE259.out | refine below_set ?_ GE274.out) | exact HB.out))⟩)
         rintro gb274 w25 ⟨hS_, h0_, h1_, h2_, h3_, h4_, h5_, h6_, h7_, h8_, h9_, h10_⟩
         have n0_ : Aside0 (Kd.R k29 29 w25 w.heap.size (fun k_ => k_ ≠ gb274) u6 x6_1) := ⟨h0_⟩
         have n1_ : Aside0 (w25.heap[gb258]? = some (.cells #[.int .i64 a0_0, .int .i64 a0_1] 24 (0, 0))) := ⟨h1_⟩
         have n2_ : Aside0 (w25.heap[gb259]? = some (.cells #[.int .i64 x260000_1, .bool x260001_1, .string x260002_1, .string x260003_1] 31 (0, 0))) := ⟨h2_⟩
         have n3_ : Aside0 (w25.heap[gb274]? = some (.cells #[.int .i64 0, .int .i64 0, .string (⟨#[]⟩ : ByteArray)] 29 (0, 0))) := ⟨h3_⟩
         have n4_ : Aside0 (w.heap.size ≤ gb274) := ⟨h4_⟩
         have n5_ : Aside0 (w.heap.size ≤ gb274) := ⟨h5_⟩
         have n6_ : Aside0 (gb258 ≠ gb274) := ⟨h6_⟩
         have n7_ : Aside0 (gb274 ≠ gb258) := ⟨h7_⟩
         have n8_ : Aside0 (gb259 ≠ gb274) := ⟨h8_⟩
         have n9_ : Aside0 (gb274 ≠ gb259) := ⟨h9_⟩
         have n10_ : Aside0 (Below w.heap.size w w25) := ⟨h10_⟩
         clear HO_6
         clear BK258
         clear BK259
         clear HB
         clear h0_ h1_ h2_ h3_ h4_ h5_ h6_ h7_ h8_ h9_ h10_
         have HO_6 := n0_
         have BK258 := n1_
         have BK259 := n2_
         have BK274 := n3_
         have GW274 := n4_
         have GE274 := n5_
         have NB258_274 := n6_
         have NB274_258 := n7_
         have NB259_274 := n8_
         have NB274_259 := n9_
         have HB := n10_
         clear n0_ n1_ n2_ n3_ n4_ n5_ n6_ n7_ n8_ n9_ n10_
         have hHeld : w25.cell? ⟨gb258, 0, none⟩ = some (.int .i64 a0_0) ∧ w25.cell? ⟨gb258, 1, none⟩ = some (.int .i64 a0_1) ∧ w25.cell? (ad265.add ((x8_1).toNat * 4)) = some (.int .i64 ((rd_T31 l1 x8_1).f0)) ∧ w25.cell? ⟨(ad265.add ((x8_1).toNat * 4)).block, (ad265.add ((x8_1).toNat * 4)).off + 1, none⟩ = some (.bool (true)) ∧ w25.cell? ⟨(ad265.add ((x8_1).toNat * 4)).block, (ad265.add ((x8_1).toNat * 4)).off + 2, none⟩ = some (.string ((rd_T31 l1 x8_1).f2)) ∧ w25.cell? ⟨(ad265.add ((x8_1).toNat * 4)).block, (ad265.add ((x8_1).toNat * 4)).off + 3, none⟩ = some (.string ((rd_T31 l1 x8_1).f3)) := hS_
         refine norm_ (a' := ?_) ?_ ?_
         rotate_left
         ·simp only [putAll, Act.put, List.setIfInBounds_toArray, List.set_cons_zero, List.set_cons_succ]
          rfl
         refine one_ (i := 11) (N := none) #[true, true, true, true, true, true, true, true, true, true, true, true, false] rfl rfl (one_of HT_.out (by kernel_rfl)) (by decide) (fun K hK => ?_)
         have hs26 : w25.cell? ⟨gb274, 0, none⟩ = some (.int .i64 0) := (blk_cell BK274.out 0).trans rfl
         have hfs26 := blk_frozen BK274.out 0
         have hns26_0 := NB258_274.out
         have hns26_1 := NB259_274.out
         have hms26_0 := NB274_258.out
         have hms26_1 := NB274_259.out
         have hs27 : w25.cell? ⟨gb274, 1, none⟩ = some (.int .i64 0) := (blk_cell BK274.out 1).trans rfl
         have hfs27 := blk_frozen BK274.out 1
         have hns27_0 := NB258_274.out
         have hns27_1 := NB259_274.out
         have hms27_0 := NB274_258.out
         have hms27_1 := NB274_259.out
         have hs28 : w25.cell? ⟨gb274, 2, none⟩ = some (.string (⟨#[]⟩ : ByteArray)) := (blk_cell BK274.out 2).trans rfl
         have hfs28 := blk_frozen BK274.out 2
         have hns28_0 := NB258_274.out
         have hns28_1 := NB259_274.out
         have hms28_0 := NB274_258.out
         have hms28_1 := NB274_259.out
         refine skip_ (w1 := ?_) (by rfl) rfl ?_ ?_
         rotate_left
         ·go_simp
          rfl
         refine hK.out _ _ ⟨((cell_far (p := ⟨gb274, _, none⟩) NB258_274.out _).trans (((cell_far (p := ⟨gb274, _, none⟩) NB258_274.out _).trans (((cell_far (p := ⟨gb274, _, none⟩) NB258_274.out _).trans (hHeld.1)))))), ((cell_far (p := ⟨gb274, _, none⟩) NB258_274.out _).trans (((cell_far (p := ⟨gb274, _, none⟩) NB258_274.out _).trans (((cell_far (p := ⟨gb274, _, none⟩) NB258_274.out _).trans (hHeld.2.1)))))), ((cell_far (p := ⟨gb274, _, none⟩) (by first | exact Nat.ne_of_lt (Nat.lt_of_lt_of_le (by have := World.block_lt_of_cell? _ _ hw269_0; first | rwa [add_block] at this | exact this) GW274.out) | (rw [add_block]; exact Nat.ne_of_lt (Nat.lt_of_lt_of_le (by have := World.block_lt_of_cell? _ _ hw269_0; first | rwa [add_block] at this | exact this) GW274.out)) | (show (Addr.add _ _).block ≠ _; rw [add_block]; exact Nat.ne_of_lt (Nat.lt_of_lt_of_le (by have := World.block_lt_of_cell? _ _ hw269_0; first | rwa [add_block] at this | exact this) GW274.out)) | (dsimp only; exact Nat.ne_of_lt (Nat.lt_of_lt_of_le (by have := World.block_lt_of_cell? _ _ hw269_0; first | rwa [add_block] at this | exact this) GW274.out))) _).trans (((cell_far (p := ⟨gb274, _, none⟩) (by first | exact Nat.ne_of_lt (Nat.lt_of_lt_of_le (by have := World.block_lt_of_cell? _ _ hw269_0; first | rwa [add_block] at this | exact this) GW274.out) | (rw [add_block]; exact Nat.ne_of_lt (Nat.lt_of_lt_of_le (by have := World.block_lt_of_cell? _ _ hw269_0; first | rwa [add_block] at this | exact this) GW274.out)) | (show (Addr.add _ _).block ≠ _; rw [add_block]; exact Nat.ne_of_lt (Nat.lt_of_lt_of_le (by have := World.block_lt_of_cell? _ _ hw269_0; first | rwa [add_block] at this | exact this) GW274.out)) | (dsimp only; exact Nat.ne_of_lt (Nat.lt_of_lt_of_le (by have := World.block_lt_of_cell? _ _ hw269_0; first | rwa [add_block] at this | exact this) GW274.out))) _).trans (((cell_far (p := ⟨gb274, _, none⟩) (by first | exact Nat.ne_of_lt (Nat.lt_of_lt_of_le (by have := World.block_lt_of_cell? _ _ hw269_0; first | rwa [add_block] at this | exact this) GW274.out) | (rw [add_block]; exact Nat.ne_of_lt (Nat.lt_of_lt_of_le (by have := World.block_lt_of_cell? _ _ hw269_0; first | rwa [add_block] at this | exact this) GW274.out)) | (show (Addr.add _ _).block ≠ _; rw [add_block]; exact Nat.ne_of_lt (Nat.lt_of_lt_of_le (by have := World.block_lt_of_cell? _ _ hw269_0; first | rwa [add_block] at this | exact this) GW274.out)) | (dsimp only; exact Nat.ne_of_lt (Nat.lt_of_lt_of_le (by have := World.block_lt_of_cell? _ _ hw269_0; first | rwa [add_block] at this | exact this) GW274.out))) _).trans (hHeld.2.2.1)))))), ((cell_far (p := ⟨gb274, _, none⟩) (by first | exact Nat.ne_of_lt (Nat.lt_of_lt_of_le (by have := World.block_lt_of_cell? _ _ hw269_1; first | rwa [add_block] at this | exact this) GW274.out) | (rw [add_block]; exact Nat.ne_of_lt (Nat.lt_of_lt_of_le (by have := World.block_lt_of_cell? _ _ hw269_1; first | rwa [add_block] at this | exact this) GW274.out)) | (show (Addr.add _ _).block ≠ _; rw [add_block]; exact Nat.ne_of_lt (Nat.lt_of_lt_of_le (by have := World.block_lt_of_cell? _ _ hw269_1; first | rwa [add_block] at this | exact this) GW274.out)) | (dsimp only; exact Nat.ne_of_lt (Nat.lt_of_lt_of_le (by have := World.block_lt_of_cell? _ _ hw269_1; first | rwa [add_block] at this | exact this) GW274.out))) _).trans (((cell_far (p := ⟨gb274, _, none⟩) (by first | exact Nat.ne_of_lt (Nat.lt_of_lt_of_le (by have := World.block_lt_of_cell? _ _ hw269_1; first | rwa [add_block] at this | exact this) GW274.out) | (rw [add_block]; exact Nat.ne_of_lt (Nat.lt_of_lt_of_le (by have := World.block_lt_of_cell? _ _ hw269_1; first | rwa [add_block] at this | exact this) GW274.out)) | (show (Addr.add _ _).block ≠ _; rw [add_block]; exact Nat.ne_of_lt (Nat.lt_of_lt_of_le (by have := World.block_lt_of_cell? _ _ hw269_1; first | rwa [add_block] at this | exact this) GW274.out)) | (dsimp only; exact Nat.ne_of_lt (Nat.lt_of_lt_of_le (by have := World.block_lt_of_cell? _ _ hw269_1; first | rwa [add_block] at this | exact this) GW274.out))) _).trans (((cell_far (p := ⟨gb274, _, none⟩) (by first | exact Nat.ne_of_lt (Nat.lt_of_lt_of_le (by have := World.block_lt_of_cell? _ _ hw269_1; first | rwa [add_block] at this | exact this) GW274.out) | (rw [add_block]; exact Nat.ne_of_lt (Nat.lt_of_lt_of_le (by have := World.block_lt_of_cell? _ _ hw269_1; first | rwa [add_block] at this | exact this) GW274.out)) | (show (Addr.add _ _).block ≠ _; rw [add_block]; exact Nat.ne_of_lt (Nat.lt_of_lt_of_le (by have := World.block_lt_of_cell? _ _ hw269_1; first | rwa [add_block] at this | exact this) GW274.out)) | (dsimp only; exact Nat.ne_of_lt (Nat.lt_of_lt_of_le (by have := World.block_lt_of_cell? _ _ hw269_1; first | rwa [add_block] at this | exact this) GW274.out))) _).trans (hHeld.2.2.2.1)))))), ((cell_far (p := ⟨gb274, _, none⟩) (by first | exact Nat.ne_of_lt (Nat.lt_of_lt_of_le (by have := World.block_lt_of_cell? _ _ hw269_2; first | rwa [add_block] at this | exact this) GW274.out) | (rw [add_block]; exact Nat.ne_of_lt (Nat.lt_of_lt_of_le (by have := World.block_lt_of_cell? _ _ hw269_2; first | rwa [add_block] at this | exact this) GW274.out)) | (show (Addr.add _ _).block ≠ _; rw [add_block]; exact Nat.ne_of_lt (Nat.lt_of_lt_of_le (by have := World.block_lt_of_cell? _ _ hw269_2; first | rwa [add_block] at this | exact this) GW274.out)) | (dsimp only; exact Nat.ne_of_lt (Nat.lt_of_lt_of_le (by have := World.block_lt_of_cell? _ _ hw269_2; first | rwa [add_block] at this | exact this) GW274.out))) _).trans (((cell_far (p := ⟨gb274, _, none⟩) (by first | exact Nat.ne_of_lt (Nat.lt_of_lt_of_le (by have := World.block_lt_of_cell? _ _ hw269_2; first | rwa [add_block] at this | exact this) GW274.out) | (rw [add_block]; exact Nat.ne_of_lt (Nat.lt_of_lt_of_le (by have := World.block_lt_of_cell? _ _ hw269_2; first | rwa [add_block] at this | exact this) GW274.out)) | (show (Addr.add _ _).block ≠ _; rw [add_block]; exact Nat.ne_of_lt (Nat.lt_of_lt_of_le (by have := World.block_lt_of_cell? _ _ hw269_2; first | rwa [add_block] at this | exact this) GW274.out)) | (dsimp only; exact Nat.ne_of_lt (Nat.lt_of_lt_of_le (by have := World.block_lt_of_cell? _ _ hw269_2; first | rwa [add_block] at this | exact this) GW274.out))) _).trans (((cell_far (p := ⟨gb274, _, none⟩) (by first | exact Nat.ne_of_lt (Nat.lt_of_lt_of_le (by have := World.block_lt_of_cell? _ _ hw269_2; first | rwa [add_block] at this | exact this) GW274.out) | (rw [add_block]; exact Nat.ne_of_lt (Nat.lt_of_lt_of_le (by have := World.block_lt_of_cell? _ _ hw269_2; first | rwa [add_block] at this | exact this) GW274.out)) | (show (Addr.add _ _).block ≠ _; rw [add_block]; exact Nat.ne_of_lt (Nat.lt_of_lt_of_le (by have := World.block_lt_of_cell? _ _ hw269_2; first | rwa [add_block] at this | exact this) GW274.out)) | (dsimp only; exact Nat.ne_of_lt (Nat.lt_of_lt_of_le (by have := World.block_lt_of_cell? _ _ hw269_2; first | rwa [add_block] at this | exact this) GW274.out))) _).trans (hHeld.2.2.2.2.1)))))), ((cell_far (p := ⟨gb274, _, none⟩) (by first | exact Nat.ne_of_lt (Nat.lt_of_lt_of_le (by have := World.block_lt_of_cell? _ _ hw269_3; first | rwa [add_block] at this | exact this) GW274.out) | (rw [add_block]; exact Nat.ne_of_lt (Nat.lt_of_lt_of_le (by have := World.block_lt_of_cell? _ _ hw269_3; first | rwa [add_block] at this | exact this) GW274.out)) | (show (Addr.add _ _).block ≠ _; rw [add_block]; exact Nat.ne_of_lt (Nat.lt_of_lt_of_le (by have := World.block_lt_of_cell? _ _ hw269_3; first | rwa [add_block] at this | exact this) GW274.out)) | (dsimp only; exact Nat.ne_of_lt (Nat.lt_of_lt_of_le (by have := World.block_lt_of_cell? _ _ hw269_3; first | rwa [add_block] at this | exact this) GW274.out))) _).trans (((cell_far (p := ⟨gb274, _, none⟩) (by first | exact Nat.ne_of_lt (Nat.lt_of_lt_of_le (by have := World.block_lt_of_cell? _ _ hw269_3; first | rwa [add_block] at this | exact this) GW274.out) | (rw [add_block]; exact Nat.ne_of_lt (Nat.lt_of_lt_of_le (by have := World.block_lt_of_cell? _ _ hw269_3; first | rwa [add_block] at this | exact this) GW274.out)) | (show (Addr.add _ _).block ≠ _; rw [add_block]; exact Nat.ne_of_lt (Nat.lt_of_lt_of_le (by have := World.block_lt_of_cell? _ _ hw269_3; first | rwa [add_block] at this | exact this) GW274.out)) | (dsimp only; exact Nat.ne_of_lt (Nat.lt_of_lt_of_le (by have := World.block_lt_of_cell? _ _ hw269_3; first | rwa [add_block] at this | exact this) GW274.out))) _).trans (((cell_far (p := ⟨gb274, _, none⟩) (by first | exact Nat.ne_of_lt (Nat.lt_of_lt_of_le (by have := World.block_lt_of_cell? _ _ hw269_3; first | rwa [add_block] at this | exact this) GW274.out) | (rw [add_block]; exact Nat.ne_of_lt (Nat.lt_of_lt_of_le (by have := World.block_lt_of_cell? _ _ hw269_3; first | rwa [add_block] at this | exact this) GW274.out)) | (show (Addr.add _ _).block ≠ _; rw [add_block]; exact Nat.ne_of_lt (Nat.lt_of_lt_of_le (by have := World.block_lt_of_cell? _ _ hw269_3; first | rwa [add_block] at this | exact this) GW274.out)) | (dsimp only; exact Nat.ne_of_lt (Nat.lt_of_lt_of_le (by have := World.block_lt_of_cell? _ _ hw269_3; first | rwa [add_block] at this | exact this) GW274.out))) _).trans (hHeld.2.2.2.2.2))))))⟩ (fun hHeld => ?_)
         clear hK K
         refine pure_ (i := 12) (N := some 10) (v := ?_) (a' := ?_) #[true, true, true, true, true, true, true, true, true, true, true, true, true] rfl rfl (any_of HT_.out (by kernel_rfl)) (fun _ _ _ h => h) (Or.inl ⟨by rfl, ?_⟩) ?_ ?_
         rotate_left
         ·intro w'
          go_simp
          with_reducible rfl
         rotate_left
         ·simp only [Act.put, List.setIfInBounds_toArray, List.set_cons_zero, List.set_cons_succ, i64_w, i32_w]
          rfl
         refine done_ (done_of HT_.out (by kernel_rfl)) ?_
         try go_wp2
         have n0_ : Aside0 (Kd.R k29 29 (((w25.setCell ⟨gb274, 0, none⟩ (.int .i64 t270)).setCell ⟨gb274, 1, none⟩ (.int .i64 t271)).setCell ⟨gb274, 2, none⟩ (.string t272)) w.heap.size (fun k_ => k_ ≠ gb274) u6 x6_1) := ⟨by (with_reducible repeat (first | apply Kd.R_alloc | apply Kd.R_drewN | apply Kd.R_drew)); exact Kd.R_mono (Kd.R_far (p := ⟨gb274, 2, none⟩) (Kd.R_far (p := ⟨gb274, 1, none⟩) (Kd.R_far (p := ⟨gb274, 0, none⟩) (Kd.R_mono HO_6.out (fun k_ hk => (⟨hk, hk⟩ : _ ∧ k_ ≠ gb274))) (fun _ hk => hk.2) (.int .i64 t270)) (fun _ hk => hk.2) (.int .i64 t271)) (fun _ hk => hk.2) (.string t272)) (fun _ hk => hk.1)⟩
         have n1_ : Aside0 ((((w25.setCell ⟨gb274, 0, none⟩ (.int .i64 t270)).setCell ⟨gb274, 1, none⟩ (.int .i64 t271)).setCell ⟨gb274, 2, none⟩ (.string t272)).heap[gb258]? = some (.cells #[.int .i64 a0_0, .int .i64 a0_1] 24 (0, 0))) := ⟨by (with_reducible repeat (first | refine blk_drewN ?_ _ | refine blk_drew ?_ | refine blk_alloc ?_ _)); refine blk_far ?_ NB258_274.out _; (with_reducible repeat (first | refine blk_drewN ?_ _ | refine blk_drew ?_ | refine blk_alloc ?_ _)); refine blk_far ?_ NB258_274.out _; (with_reducible repeat (first | refine blk_drewN ?_ _ | refine blk_drew ?_ | refine blk_alloc ?_ _)); refine blk_far ?_ NB258_274.out _; (with_reducible repeat (first | refine blk_drewN ?_ _ | refine blk_drew ?_ | refine blk_alloc ?_ _)); exact BK258.out⟩
         have n2_ : Aside0 ((((w25.setCell ⟨gb274, 0, none⟩ (.int .i64 t270)).setCell ⟨gb274, 1, none⟩ (.int .i64 t271)).setCell ⟨gb274, 2, none⟩ (.string t272)).heap[gb259]? = some (.cells #[.int .i64 x260000_1, .bool x260001_1, .string x260002_1, .string x260003_1] 31 (0, 0))) := ⟨by (with_reducible repeat (first | refine blk_drewN ?_ _ | refine blk_drew ?_ | refine blk_alloc ?_ _)); refine blk_far ?_ NB259_274.out _; (with_reducible repeat (first | refine blk_drewN ?_ _ | refine blk_drew ?_ | refine blk_alloc ?_ _)); refine blk_far ?_ NB259_274.out _; (with_reducible repeat (first | refine blk_drewN ?_ _ | refine blk_drew ?_ | refine blk_alloc ?_ _)); refine blk_far ?_ NB259_274.out _; (with_reducible repeat (first | refine blk_drewN ?_ _ | refine blk_drew ?_ | refine blk_alloc ?_ _)); exact BK259.out⟩
         have n3_ : Aside0 ((((w25.setCell ⟨gb274, 0, none⟩ (.int .i64 t270)).setCell ⟨gb274, 1, none⟩ (.int .i64 t271)).setCell ⟨gb274, 2, none⟩ (.string t272)).heap[gb274]? = some (.cells #[.int .i64 t270, .int .i64 t271, .string t272] 29 (0, 0))) := ⟨by (with_reducible repeat (first | refine blk_drewN ?_ _ | refine blk_drew ?_ | refine blk_alloc ?_ _)); refine blk_put (cs := #[.int .i64 t270, .int .i64 t271, .string (⟨#[]⟩ : ByteArray)]) ?_ 2 _ rfl; (with_reducible repeat (first | refine blk_drewN ?_ _ | refine blk_drew ?_ | refine blk_alloc ?_ _)); refine blk_put (cs := #[.int .i64 t270, .int .i64 0, .string (⟨#[]⟩ : ByteArray)]) ?_ 1 _ rfl; (with_reducible repeat (first | refine blk_drewN ?_ _ | refine blk_drew ?_ | refine blk_alloc ?_ _)); refine blk_put (cs := #[.int .i64 0, .int .i64 0, .string (⟨#[]⟩ : ByteArray)]) ?_ 0 _ rfl; (with_reducible repeat (first | refine blk_drewN ?_ _ | refine blk_drew ?_ | refine blk_alloc ?_ _)); exact BK274.out⟩
         have n4_ : Aside0 (Below w.heap.size w (((w25.setCell ⟨gb274, 0, none⟩ (.int .i64 t270)).setCell ⟨gb274, 1, none⟩ (.int .i64 t271)).setCell ⟨gb274, 2, none⟩ (.string t272))) := ⟨by repeat (first | (with_reducible first | exact HB.out | apply below_alloc | apply pw_below_drewN | apply below_drew1 | refine below_set ?_ GE258.out | refine below_set ?_ GE259.out | refine below_set ?_ GE274.out) | exact HB.out)⟩
         (try clear HO_6)
         (try clear BK258)
         (try clear BK259)
         (try clear BK274)
         (try clear HB)
         generalize (((w25.setCell ⟨gb274, 0, none⟩ (.int .i64 t270)).setCell ⟨gb274, 1, none⟩ (.int .i64 t271)).setCell ⟨gb274, 2, none⟩ (.string t272)) = w29 at n0_ n1_ n2_ n3_ n4_ ⊢
         have HO_6 := n0_
         have BK258 := n1_
         have BK259 := n2_
         have BK274 := n3_
         have HB := n4_
         clear n0_ n1_ n2_ n3_ n4_
         have n0_ := Aside0.mk (Kd.R_drew HO_6.out)
         have n1_ := Aside0.mk (blk_drew BK258.out)
         have n2_ := Aside0.mk (blk_drew BK259.out)
         have n3_ := Aside0.mk (blk_drew BK274.out)
         have n4_ := Aside0.mk (below_drew1 HB.out)
         clear HO_6
         clear BK258
         clear BK259
         clear BK274
         clear HB
         have HO_6 := n0_
         have BK258 := n1_
         have BK259 := n2_
         have BK274 := n3_
         have HB := n4_
         clear n0_ n1_ n2_ n3_ n4_
         have p275 : 0 ≤ (x8_1 : Int) := of_decide_eq_true (by first | (with_reducible assumption) | assumption)
         have q275 : x8_1 < (l1.length : Int) := of_decide_eq_true (by first | (with_reducible assumption) | assumption)
         obtain ⟨ad275, e275, hx275_0, hx275_1, hx275_2, hx275_3⟩ := at_T31 HR1.out x8_1 p275 q275
         have hw275_3 := hx275_3
         have hw275_2 := hx275_2
         have hw275_1 := hx275_1
         have hw275_0 := hx275_0
         (try rw [← Nbq15.out] at hx275_1)
         (try rw [← Nbq15.out] at hw275_1)
         obtain rfl : ad265 = ad275 := (by injection e275)
         replace hx275_0 := (HB.out.cell (World.block_lt_of_cell? w _ hx275_0)).trans hx275_0
         replace hx275_1 := (HB.out.cell (World.block_lt_of_cell? w _ hx275_1)).trans hx275_1
         replace hx275_2 := (HB.out.cell (World.block_lt_of_cell? w _ hx275_2)).trans hx275_2
         replace hx275_3 := (HB.out.cell (World.block_lt_of_cell? w _ hx275_3)).trans hx275_3
         replace p275 := eq_true p275
         replace q275 := eq_true q275
         refine start_ (n := 13) (S := fun w' => w'.cell? ⟨gb258, 0, none⟩ = some (.int .i64 a0_0) ∧ w'.cell? ⟨gb258, 1, none⟩ = some (.int .i64 a0_1) ∧ w'.cell? (ad265.add ((x8_1).toNat * 4)) = some (.int .i64 ((rd_T31 l1 x8_1).f0)) ∧ w'.cell? ⟨(ad265.add ((x8_1).toNat * 4)).block, (ad265.add ((x8_1).toNat * 4)).off + 1, none⟩ = some (.bool (true)) ∧ w'.cell? ⟨(ad265.add ((x8_1).toNat * 4)).block, (ad265.add ((x8_1).toNat * 4)).off + 2, none⟩ = some (.string ((rd_T31 l1 x8_1).f2)) ∧ w'.cell? ⟨(ad265.add ((x8_1).toNat * 4)).block, (ad265.add ((x8_1).toNat * 4)).off + 3, none⟩ = some (.string ((rd_T31 l1 x8_1).f3))) (ds := []) #[false, false, false, false, false, false, false, false, false, false, false, false, false] (by kernel_rfl) rfl rfl ⟨(blk_cell BK258.out 0).trans rfl, (blk_cell BK258.out 1).trans rfl, ((HB.out.cell (World.block_lt_of_cell? w _ hw275_0)).trans hw275_0), ((HB.out.cell (World.block_lt_of_cell? w _ hw275_1)).trans hw275_1), ((HB.out.cell (World.block_lt_of_cell? w _ hw275_2)).trans hw275_2), ((HB.out.cell (World.block_lt_of_cell? w _ hw275_3)).trans hw275_3)⟩ (fun hHeld => ?_); refine with_tabW marquetryref22_Join.tab13 marquetryref22_Join.bits13 (fun HT_ HW_ => ?_)
         generalize w29.drew = w30 at HO_6 BK258 BK259 BK274 HB hx275_0 hx275_1 hx275_2 hx275_3 hHeld ⊢
         refine pure_ (i := 1) (N := some 56) (v := ?_) (a' := ?_) #[false, true, false, false, false, false, false, false, false, false, false, false, false] rfl rfl (any_of HT_.out (by kernel_rfl)) (fun _ _ _ h => h) (Or.inl ⟨by rfl, ?_⟩) ?_ ?_
         rotate_left
         ·intro w'
          go_simp
          with_reducible rfl
         rotate_left
         ·simp only [Act.put, List.setIfInBounds_toArray, List.set_cons_zero, List.set_cons_succ, i64_w, i32_w]
          rfl
         refine pure_ (i := 2) (N := some 57) (v := ?_) (a' := ?_) #[false, true, true, false, false, false, false, false, false, false, false, false, false] rfl rfl (any_of HT_.out (by kernel_rfl)) (fun _ _ _ h => h) (Or.inl ⟨by rfl, ?_⟩) ?_ ?_
         rotate_left
         ·intro w'
          go_simp
          with_reducible rfl
         rotate_left
         ·simp only [Act.put, List.setIfInBounds_toArray, List.set_cons_zero, List.set_cons_succ, i64_w, i32_w]
          rfl
         refine pure_ (i := 3) (N := some 58) (v := ?_) (a' := ?_) #[false, true, true, true, false, false, false, false, false, false, false, false, false] rfl rfl (any_of HT_.out (by kernel_rfl)) (fun _ _ _ h => h) (Or.inl ⟨by rfl, ?_⟩) ?_ ?_
         rotate_left
         ·intro w'
          go_simp
          with_reducible rfl
         rotate_left
         ·simp only [Act.put, List.setIfInBounds_toArray, List.set_cons_zero, List.set_cons_succ, i64_w, i32_w]
          rfl
         refine pure_ (i := 4) (N := some 59) (v := ?_) (a' := ?_) #[false, true, true, true, true, false, false, false, false, false, false, false, false] rfl rfl (any_of HT_.out (by kernel_rfl)) (fun _ _ _ h => h) (Or.inl ⟨by rfl, ?_⟩) ?_ ?_
         rotate_left
         ·intro w'
          go_simp
          with_reducible rfl
         rotate_left
         ·simp only [Act.put, List.setIfInBounds_toArray, List.set_cons_zero, List.set_cons_succ, i64_w, i32_w]
          rfl
         refine take_ (i := 0) (N := some 55) (v := ?_) (a' := ?_) #[true, true, true, true, true, false, false, false, false, false, false, false, false] rfl rfl (take_ofW HT_.out HW_.out (by kernel_rfl)) (fun _ _ _ h => h) (Or.inl ⟨by rfl, ?_⟩) hHeld ?_ ?_
         rotate_left
         ·rintro w' ⟨s0, s1, s2, s3, s4, s5⟩
          go_simp
          with_reducible rfl
         rotate_left
         ·simp only [Act.put, List.setIfInBounds_toArray, List.set_cons_zero, List.set_cons_succ, i64_w, i32_w]
          rfl
         refine take_ (i := 5) (N := some 60) (v := ?_) (a' := ?_) #[true, true, true, true, true, true, false, false, false, false, false, false, false] rfl rfl (take_ofW HT_.out HW_.out (by kernel_rfl)) (fun _ _ _ h => h) (Or.inl ⟨by rfl, ?_⟩) hHeld ?_ ?_
         rotate_left
         ·rintro w' ⟨s0, s1, s2, s3, s4, s5⟩
          go_simp
          with_reducible rfl
         rotate_left
         ·simp only [Act.put, List.setIfInBounds_toArray, List.set_cons_zero, List.set_cons_succ, i64_w, i32_w]
          rfl
         refine join_ (σ := Nat) 2 #[true, true, true, true, true, true, true, true, true, true, true, false, false] (fun s_ => [(61, .tuple #[.agg #[.int .i64 t276, .int .i64 t277, .string t278], .int .i64 t279]), (11, .pointer (some ⟨s_, 0, none⟩)), (54, .tuple #[.agg #[.int .i64 t276, .int .i64 t277, .string t278], .int .i64 t279]), (62, .agg #[.int .i64 t276, .int .i64 t277, .string t278]), (63, .int .i64 t279)]) (fun s_ w' => (w'.cell? ⟨gb258, 0, none⟩ = some (.int .i64 a0_0) ∧ w'.cell? ⟨gb258, 1, none⟩ = some (.int .i64 a0_1) ∧ w'.cell? (ad265.add ((x8_1).toNat * 4)) = some (.int .i64 ((rd_T31 l1 x8_1).f0)) ∧ w'.cell? ⟨(ad265.add ((x8_1).toNat * 4)).block, (ad265.add ((x8_1).toNat * 4)).off + 1, none⟩ = some (.bool (true)) ∧ w'.cell? ⟨(ad265.add ((x8_1).toNat * 4)).block, (ad265.add ((x8_1).toNat * 4)).off + 2, none⟩ = some (.string ((rd_T31 l1 x8_1).f2)) ∧ w'.cell? ⟨(ad265.add ((x8_1).toNat * 4)).block, (ad265.add ((x8_1).toNat * 4)).off + 3, none⟩ = some (.string ((rd_T31 l1 x8_1).f3))) ∧ (Kd.R k29 29 w' w.heap.size (fun k_ => k_ ≠ gb274 ∧ k_ ≠ s_) u6 x6_1) ∧ (w'.heap[gb258]? = some (.cells #[.int .i64 a0_0, .int .i64 a0_1] 24 (0, 0))) ∧ (w'.heap[gb259]? = some (.cells #[.int .i64 x260000_1, .bool x260001_1, .string x260002_1, .string x260003_1] 31 (0, 0))) ∧ (w'.heap[gb274]? = some (.cells #[.int .i64 t270, .int .i64 t271, .string t272] 29 (0, 0))) ∧ (w'.heap[s_]? = some (.cells #[.int .i64 0, .int .i64 0, .string (⟨#[]⟩ : ByteArray)] 29 (0, 0))) ∧ (w.heap.size ≤ s_) ∧ (w.heap.size ≤ s_) ∧ (gb258 ≠ s_) ∧ (s_ ≠ gb258) ∧ (gb259 ≠ s_) ∧ (s_ ≠ gb259) ∧ (gb274 ≠ s_) ∧ (s_ ≠ gb274) ∧ (Below w.heap.size w w')) ?_ ?_
         rotate_left
         ·intro hCont
          refine two_ (i := 6) (j := 10) (Ni := some 61) (Nj := some 11) #[true, true, true, true, true, true, true, false, false, false, false, false, false] #[true, true, true, true, true, true, false, false, false, false, true, false, false] rfl rfl rfl rfl (two_of HT_.out (by kernel_rfl)) (by decide) (by decide) (fun K hK => ?_) (fun K hK => ?_)
          ·skip
           refine goes_ Try.func19 (by kernel_rfl) rfl #[.agg #[.int .i64 a0_0, .int .i64 a0_1], .string ((rd_T31 l1 x8_1).f3)] (by rfl) rfl rfl (by (try simp only [List.map_toArray, List.map_cons, List.map_nil]); first | done | rfl | (simp only [List.length_drop, List.length_take]; rfl)) ?_
           with_reducible refine (marquetryref22_Read.calls k1 a0_0 a0_1 ((rd_T31 l1 x8_1).f3) t276 t277 t278 t279 _ A18.out).mono ?_
           rintro e w31 ⟨rfl, hb⟩
           refine ⟨_, rfl, ?_⟩
           have n0_ := Aside0.mk (Kd.R_below (by (with_reducible repeat (first | apply Kd.R_alloc | apply Kd.R_drewN | apply Kd.R_drew)); exact HO_6.out) hb)
           have n1_ := Aside0.mk (blk_below (g := gb258) (o := .cells #[.int .i64 a0_0, .int .i64 a0_1] 24 (0, 0)) (by (with_reducible repeat (first | refine blk_drewN ?_ _ | refine blk_drew ?_ | refine blk_alloc ?_ _)); exact BK258.out) hb)
           have n2_ := Aside0.mk (blk_below (g := gb259) (o := .cells #[.int .i64 x260000_1, .bool x260001_1, .string x260002_1, .string x260003_1] 31 (0, 0)) (by (with_reducible repeat (first | refine blk_drewN ?_ _ | refine blk_drew ?_ | refine blk_alloc ?_ _)); exact BK259.out) hb)
           have n3_ := Aside0.mk (blk_below (g := gb274) (o := .cells #[.int .i64 t270, .int .i64 t271, .string t272] 29 (0, 0)) (by (with_reducible repeat (first | refine blk_drewN ?_ _ | refine blk_drew ?_ | refine blk_alloc ?_ _)); exact BK274.out) hb)
           have n4_ := Aside0.mk (below_step (by repeat (first | (with_reducible first | exact HB.out | apply below_alloc | apply pw_below_drewN | apply below_drew1 | refine below_set ?_ GE258.out | refine below_set ?_ GE259.out | refine below_set ?_ GE274.out) | exact HB.out)) hb)
           clear HO_6
           clear BK258
           clear BK259
           clear BK274
           clear HB
           have HO_6 := n0_
           have BK258 := n1_
           have BK259 := n2_
           have BK274 := n3_
           have HB := n4_
           clear n0_ n1_ n2_ n3_ n4_
           (try clear hb)
           (try clear hb2)
           (try clear hk)
           (try clear hi)
           refine hK.out _ _ ⟨(blk_cell BK258.out 0).trans rfl, (blk_cell BK258.out 1).trans rfl, ((HB.out.cell (World.block_lt_of_cell? w _ hw275_0)).trans hw275_0), ((HB.out.cell (World.block_lt_of_cell? w _ hw275_1)).trans hw275_1), ((HB.out.cell (World.block_lt_of_cell? w _ hw275_2)).trans hw275_2), ((HB.out.cell (World.block_lt_of_cell? w _ hw275_3)).trans hw275_3)⟩ (fun hHeld => ?_)
           clear hK K
           refine norm_ (a' := ?_) ?_ ?_
           rotate_left
           ·show Act.put _ (some 61) _ = _
            simp only [Act.put, List.setIfInBounds_toArray, List.set_cons_zero, List.set_cons_succ, i64_w, i32_w]
            rfl
           refine pure_ (i := 7) (N := some 54) (v := ?_) (a' := ?_) #[true, true, true, true, true, true, true, true, false, false, false, false, false] rfl rfl (any_of HT_.out (by kernel_rfl)) (fun _ _ _ h => h) (Or.inl ⟨by rfl, ?_⟩) ?_ ?_
           rotate_left
           ·intro w'
            go_simp
            with_reducible rfl
           rotate_left
           ·simp only [Act.put, List.setIfInBounds_toArray, List.set_cons_zero, List.set_cons_succ, i64_w, i32_w]
            rfl
           refine pure_ (i := 8) (N := some 62) (v := ?_) (a' := ?_) #[true, true, true, true, true, true, true, true, true, false, false, false, false] rfl rfl (any_of HT_.out (by kernel_rfl)) (fun _ _ _ h => h) (Or.inl ⟨by rfl, ?_⟩) ?_ ?_
           rotate_left
           ·intro w'
            go_simp
            with_reducible rfl
           rotate_left
           ·simp only [Act.put, List.setIfInBounds_toArray, List.set_cons_zero, List.set_cons_succ, i64_w, i32_w]
            rfl
           refine pure_ (i := 9) (N := some 63) (v := ?_) (a' := ?_) #[true, true, true, true, true, true, true, true, true, true, false, false, false] rfl rfl (any_of HT_.out (by kernel_rfl)) (fun _ _ _ h => h) (Or.inl ⟨by rfl, ?_⟩) ?_ ?_
           rotate_left
           ·intro w'
            go_simp
            with_reducible rfl
           rotate_left
           ·simp only [Act.put, List.setIfInBounds_toArray, List.set_cons_zero, List.set_cons_succ, i64_w, i32_w]
            rfl
           refine one_ (i := 10) (N := some 11) #[true, true, true, true, true, true, true, true, true, true, true, false, false] rfl rfl (one_of HT_.out (by kernel_rfl)) (by decide) (fun K hK => ?_)
           refine box_step ?hg (N := 11) ?hd (cs := #[.int .i64 0, .int .i64 0, .string (⟨#[]⟩ : ByteArray)]) (t := 29) ?hr ?_; (case hd => rfl); (case hg => rfl); (case hr => first | (go_simp; done) | (go_simp; rfl))
           intro gb280 hg w32 hbox hb
           have n0_ := Aside0.mk (Kd.R_below (Kd.R_elderB (by (with_reducible repeat (first | apply Kd.R_alloc | apply Kd.R_drewN | apply Kd.R_drew)); exact HO_6.out) gb280 (Nat.le_of_eq hg.symm)) hb)
           have n1_ := Aside0.mk (blk_below (g := gb258) (o := .cells #[.int .i64 a0_0, .int .i64 a0_1] 24 (0, 0)) (by (with_reducible repeat (first | refine blk_drewN ?_ _ | refine blk_drew ?_ | refine blk_alloc ?_ _)); exact BK258.out) hb)
           have n2_ := Aside0.mk (blk_below (g := gb259) (o := .cells #[.int .i64 x260000_1, .bool x260001_1, .string x260002_1, .string x260003_1] 31 (0, 0)) (by (with_reducible repeat (first | refine blk_drewN ?_ _ | refine blk_drew ?_ | refine blk_alloc ?_ _)); exact BK259.out) hb)
           have n3_ := Aside0.mk (blk_below (g := gb274) (o := .cells #[.int .i64 t270, .int .i64 t271, .string t272] 29 (0, 0)) (by (with_reducible repeat (first | refine blk_drewN ?_ _ | refine blk_drew ?_ | refine blk_alloc ?_ _)); exact BK274.out) hb)
           have n4_ := Aside0.mk (below_step (by repeat (first | (with_reducible first | exact HB.out | apply below_alloc | apply pw_below_drewN | apply below_drew1 | refine below_set ?_ GE258.out | refine below_set ?_ GE259.out | refine below_set ?_ GE274.out) | exact HB.out)) hb)
           have n5_ := Aside0.mk (hbox)
           have n6_ := Aside0.mk ((by rw [hg]; exact (below_size (by repeat (first | (with_reducible first | exact HB.out | apply below_alloc | apply pw_below_drewN | apply below_drew1 | refine below_set ?_ GE258.out | refine below_set ?_ GE259.out | refine below_set ?_ GE274.out) | exact HB.out))) : w.heap.size ≤ gb280))
           have n7_ := Aside0.mk ((by rw [hg]; exact (below_size (by repeat (first | (with_reducible first | exact HB.out | apply below_alloc | apply pw_below_drewN | apply below_drew1 | refine below_set ?_ GE258.out | refine below_set ?_ GE259.out | refine below_set ?_ GE274.out) | exact HB.out))) : w.heap.size ≤ gb280))
           have n8_ := Aside0.mk ((by rw [hg]; exact Nat.ne_of_lt (blk_lt (g := gb258) (o := .cells #[.int .i64 a0_0, .int .i64 a0_1] 24 (0, 0)) (by (with_reducible repeat (first | refine blk_drewN ?_ _ | refine blk_drew ?_ | refine blk_alloc ?_ _)); exact BK258.out)) : gb258 ≠ gb280))
           have n9_ := Aside0.mk ((by rw [hg]; exact Nat.ne_of_gt (blk_lt (g := gb258) (o := .cells #[.int .i64 a0_0, .int .i64 a0_1] 24 (0, 0)) (by (with_reducible repeat (first | refine blk_drewN ?_ _ | refine blk_drew ?_ | refine blk_alloc ?_ _)); exact BK258.out)) : gb280 ≠ gb258))
           have n10_ := Aside0.mk ((by rw [hg]; exact Nat.ne_of_lt (blk_lt (g := gb259) (o := .cells #[.int .i64 x260000_1, .bool x260001_1, .string x260002_1, .string x260003_1] 31 (0, 0)) (by (with_reducible repeat (first | refine blk_drewN ?_ _ | refine blk_drew ?_ | refine blk_alloc ?_ _)); exact BK259.out)) : gb259 ≠ gb280))
           have n11_ := Aside0.mk ((by rw [hg]; exact Nat.ne_of_gt (blk_lt (g := gb259) (o := .cells #[.int .i64 x260000_1, .bool x260001_1, .string x260002_1, .string x260003_1] 31 (0, 0)) (by (with_reducible repeat (first | refine blk_drewN ?_ _ | refine blk_drew ?_ | refine blk_alloc ?_ _)); exact BK259.out)) : gb280 ≠ gb259))
           have n12_ := Aside0.mk ((by rw [hg]; exact Nat.ne_of_lt (blk_lt (g := gb274) (o := .cells #[.int .i64 t270, .int .i64 t271, .string t272] 29 (0, 0)) (by (with_reducible repeat (first | refine blk_drewN ?_ _ | refine blk_drew ?_ | refine blk_alloc ?_ _)); exact BK274.out)) : gb274 ≠ gb280))
           have n13_ := Aside0.mk ((by rw [hg]; exact Nat.ne_of_gt (blk_lt (g := gb274) (o := .cells #[.int .i64 t270, .int .i64 t271, .string t272] 29 (0, 0)) (by (with_reducible repeat (first | refine blk_drewN ?_ _ | refine blk_drew ?_ | refine blk_alloc ?_ _)); exact BK274.out)) : gb280 ≠ gb274))
           clear HO_6
           clear BK258
           clear BK259
           clear BK274
           clear HB
           have HO_6 := n0_
           have BK258 := n1_
           have BK259 := n2_
           have BK274 := n3_
           have HB := n4_
           have BK280 := n5_
           have GW280 := n6_
           have GE280 := n7_
           have NB258_280 := n8_
           have NB280_258 := n9_
           have NB259_280 := n10_
           have NB280_259 := n11_
           have NB274_280 := n12_
           have NB280_274 := n13_
           clear n0_ n1_ n2_ n3_ n4_ n5_ n6_ n7_ n8_ n9_ n10_ n11_ n12_ n13_
           clear hb hbox hg
           refine hK.out _ _ ⟨(blk_cell BK258.out 0).trans rfl, (blk_cell BK258.out 1).trans rfl, ((HB.out.cell (World.block_lt_of_cell? w _ hw275_0)).trans hw275_0), ((HB.out.cell (World.block_lt_of_cell? w _ hw275_1)).trans hw275_1), ((HB.out.cell (World.block_lt_of_cell? w _ hw275_2)).trans hw275_2), ((HB.out.cell (World.block_lt_of_cell? w _ hw275_3)).trans hw275_3)⟩ (fun hHeld => ?_)
           clear hK K
           refine norm_ (a' := ?_) ?_ ?_
           rotate_left
           ·show Act.put _ (some 11) _ = _
            simp only [Act.put, List.setIfInBounds_toArray, List.set_cons_zero, List.set_cons_succ, i64_w, i32_w]
            rfl
           exact norm_ (by simp only [putAll, Act.put, List.setIfInBounds_toArray, List.set_cons_zero, List.set_cons_succ]) (hCont (gb280) _ ⟨hHeld, (by (with_reducible repeat (first | apply Kd.R_alloc | apply Kd.R_drewN | apply Kd.R_drew)); exact HO_6.out), (by (with_reducible repeat (first | refine blk_drewN ?_ _ | refine blk_drew ?_ | refine blk_alloc ?_ _)); exact BK258.out), (by (with_reducible repeat (first | refine blk_drewN ?_ _ | refine blk_drew ?_ | refine blk_alloc ?_ _)); exact BK259.out), (by (with_reducible repeat (first | refine blk_drewN ?_ _ | refine blk_drew ?_ | refine blk_alloc ?_ _)); exact BK274.out), (by (with_reducible repeat (first | refine blk_drewN ?_ _ | refine blk_drew ?_ | refine blk_alloc ?_ _)); exact BK280.out), GW280.out, GE280.out, NB258_280.out, NB280_258.out, NB259_280.out, NB280_259.out, NB274_280.out, NB280_274.out, (by repeat (first | (with_reducible first | exact HB.out | apply below_alloc | apply pw_below_drewN | apply below_drew1 | refine below_set ?_ GE258.out | refine below_set ?_ GE259.out | refine below_set ?_ GE274.out | refine below_set ?_ GE280.out) | exact HB.out))⟩)
          ·skip
           refine box_step ?hg (N := 11) ?hd (cs := #[.int .i64 0, .int .i64 0, .string (⟨#[]⟩ : ByteArray)]) (t := 29) ?hr ?_; (case hd => rfl); (case hg => rfl); (case hr => first | (go_simp; done) | (go_simp; rfl))
           intro gb280 hg w31 hbox hb
           have n0_ := Aside0.mk (Kd.R_below (Kd.R_elderB (by (with_reducible repeat (first | apply Kd.R_alloc | apply Kd.R_drewN | apply Kd.R_drew)); exact HO_6.out) gb280 (Nat.le_of_eq hg.symm)) hb)
           have n1_ := Aside0.mk (blk_below (g := gb258) (o := .cells #[.int .i64 a0_0, .int .i64 a0_1] 24 (0, 0)) (by (with_reducible repeat (first | refine blk_drewN ?_ _ | refine blk_drew ?_ | refine blk_alloc ?_ _)); exact BK258.out) hb)
           have n2_ := Aside0.mk (blk_below (g := gb259) (o := .cells #[.int .i64 x260000_1, .bool x260001_1, .string x260002_1, .string x260003_1] 31 (0, 0)) (by (with_reducible repeat (first | refine blk_drewN ?_ _ | refine blk_drew ?_ | refine blk_alloc ?_ _)); exact BK259.out) hb)
           have n3_ := Aside0.mk (blk_below (g := gb274) (o := .cells #[.int .i64 t270, .int .i64 t271, .string t272] 29 (0, 0)) (by (with_reducible repeat (first | refine blk_drewN ?_ _ | refine blk_drew ?_ | refine blk_alloc ?_ _)); exact BK274.out) hb)
           have n4_ := Aside0.mk (below_step (by repeat (first | (with_reducible first | exact HB.out | apply below_alloc | apply pw_below_drewN | apply below_drew1 | refine below_set ?_ GE258.out | refine below_set ?_ GE259.out | refine below_set ?_ GE274.out) | exact HB.out)) hb)
           have n5_ := Aside0.mk (hbox)
           have n6_ := Aside0.mk ((by rw [hg]; exact (below_size (by repeat (first | (with_reducible first | exact HB.out | apply below_alloc | apply pw_below_drewN | apply below_drew1 | refine below_set ?_ GE258.out | refine below_set ?_ GE259.out | refine below_set ?_ GE274.out) | exact HB.out))) : w.heap.size ≤ gb280))
           have n7_ := Aside0.mk ((by rw [hg]; exact (below_size (by repeat (first | (with_reducible first | exact HB.out | apply below_alloc | apply pw_below_drewN | apply below_drew1 | refine below_set ?_ GE258.out | refine below_set ?_ GE259.out | refine below_set ?_ GE274.out) | exact HB.out))) : w.heap.size ≤ gb280))
           have n8_ := Aside0.mk ((by rw [hg]; exact Nat.ne_of_lt (blk_lt (g := gb258) (o := .cells #[.int .i64 a0_0, .int .i64 a0_1] 24 (0, 0)) (by (with_reducible repeat (first | refine blk_drewN ?_ _ | refine blk_drew ?_ | refine blk_alloc ?_ _)); exact BK258.out)) : gb258 ≠ gb280))
           have n9_ := Aside0.mk ((by rw [hg]; exact Nat.ne_of_gt (blk_lt (g := gb258) (o := .cells #[.int .i64 a0_0, .int .i64 a0_1] 24 (0, 0)) (by (with_reducible repeat (first | refine blk_drewN ?_ _ | refine blk_drew ?_ | refine blk_alloc ?_ _)); exact BK258.out)) : gb280 ≠ gb258))
           have n10_ := Aside0.mk ((by rw [hg]; exact Nat.ne_of_lt (blk_lt (g := gb259) (o := .cells #[.int .i64 x260000_1, .bool x260001_1, .string x260002_1, .string x260003_1] 31 (0, 0)) (by (with_reducible repeat (first | refine blk_drewN ?_ _ | refine blk_drew ?_ | refine blk_alloc ?_ _)); exact BK259.out)) : gb259 ≠ gb280))
           have n11_ := Aside0.mk ((by rw [hg]; exact Nat.ne_of_gt (blk_lt (g := gb259) (o := .cells #[.int .i64 x260000_1, .bool x260001_1, .string x260002_1, .string x260003_1] 31 (0, 0)) (by (with_reducible repeat (first | refine blk_drewN ?_ _ | refine blk_drew ?_ | refine blk_alloc ?_ _)); exact BK259.out)) : gb280 ≠ gb259))
           have n12_ := Aside0.mk ((by rw [hg]; exact Nat.ne_of_lt (blk_lt (g := gb274) (o := .cells #[.int .i64 t270, .int .i64 t271, .string t272] 29 (0, 0)) (by (with_reducible repeat (first | refine blk_drewN ?_ _ | refine blk_drew ?_ | refine blk_alloc ?_ _)); exact BK274.out)) : gb274 ≠ gb280))
           have n13_ := Aside0.mk ((by rw [hg]; exact Nat.ne_of_gt (blk_lt (g := gb274) (o := .cells #[.int .i64 t270, .int .i64 t271, .string t272] 29 (0, 0)) (by (with_reducible repeat (first | refine blk_drewN ?_ _ | refine blk_drew ?_ | refine blk_alloc ?_ _)); exact BK274.out)) : gb280 ≠ gb274))
           clear HO_6
           clear BK258
           clear BK259
           clear BK274
           clear HB
           have HO_6 := n0_
           have BK258 := n1_
           have BK259 := n2_
           have BK274 := n3_
           have HB := n4_
           have BK280 := n5_
           have GW280 := n6_
           have GE280 := n7_
           have NB258_280 := n8_
           have NB280_258 := n9_
           have NB259_280 := n10_
           have NB280_259 := n11_
           have NB274_280 := n12_
           have NB280_274 := n13_
           clear n0_ n1_ n2_ n3_ n4_ n5_ n6_ n7_ n8_ n9_ n10_ n11_ n12_ n13_
           clear hb hbox hg
           refine hK.out _ _ ⟨(blk_cell BK258.out 0).trans rfl, (blk_cell BK258.out 1).trans rfl, ((HB.out.cell (World.block_lt_of_cell? w _ hw275_0)).trans hw275_0), ((HB.out.cell (World.block_lt_of_cell? w _ hw275_1)).trans hw275_1), ((HB.out.cell (World.block_lt_of_cell? w _ hw275_2)).trans hw275_2), ((HB.out.cell (World.block_lt_of_cell? w _ hw275_3)).trans hw275_3)⟩ (fun hHeld => ?_)
           clear hK K
           refine norm_ (a' := ?_) ?_ ?_
           rotate_left
           ·show Act.put _ (some 11) _ = _
            simp only [Act.put, List.setIfInBounds_toArray, List.set_cons_zero, List.set_cons_succ, i64_w, i32_w]
            rfl
           refine one_ (i := 6) (N := some 61) #[true, true, true, true, true, true, true, false, false, false, true, false, false] rfl rfl (one_of HT_.out (by kernel_rfl)) (by decide) (fun K hK => ?_)
           refine goes_ Try.func19 (by kernel_rfl) rfl #[.agg #[.int .i64 a0_0, .int .i64 a0_1], .string ((rd_T31 l1 x8_1).f3)] (by rfl) rfl rfl (by (try simp only [List.map_toArray, List.map_cons, List.map_nil]); first | done | rfl | (simp only [List.length_drop, List.length_take]; rfl)) ?_
           with_reducible refine (marquetryref22_Read.calls k1 a0_0 a0_1 ((rd_T31 l1 x8_1).f3) t276 t277 t278 t279 _ A18.out).mono ?_
           rintro e w32 ⟨rfl, hb⟩
           refine ⟨_, rfl, ?_⟩
           have n0_ := Aside0.mk (Kd.R_below (by (with_reducible repeat (first | apply Kd.R_alloc | apply Kd.R_drewN | apply Kd.R_drew)); exact HO_6.out) hb)
           have n1_ := Aside0.mk (blk_below (g := gb258) (o := .cells #[.int .i64 a0_0, .int .i64 a0_1] 24 (0, 0)) (by (with_reducible repeat (first | refine blk_drewN ?_ _ | refine blk_drew ?_ | refine blk_alloc ?_ _)); exact BK258.out) hb)
           have n2_ := Aside0.mk (blk_below (g := gb259) (o := .cells #[.int .i64 x260000_1, .bool x260001_1, .string x260002_1, .string x260003_1] 31 (0, 0)) (by (with_reducible repeat (first | refine blk_drewN ?_ _ | refine blk_drew ?_ | refine blk_alloc ?_ _)); exact BK259.out) hb)
           have n3_ := Aside0.mk (blk_below (g := gb274) (o := .cells #[.int .i64 t270, .int .i64 t271, .string t272] 29 (0, 0)) (by (with_reducible repeat (first | refine blk_drewN ?_ _ | refine blk_drew ?_ | refine blk_alloc ?_ _)); exact BK274.out) hb)
           have n4_ := Aside0.mk (blk_below (g := gb280) (o := .cells #[.int .i64 0, .int .i64 0, .string (⟨#[]⟩ : ByteArray)] 29 (0, 0)) (by (with_reducible repeat (first | refine blk_drewN ?_ _ | refine blk_drew ?_ | refine blk_alloc ?_ _)); exact BK280.out) hb)
           have n5_ := Aside0.mk (below_step (by repeat (first | (with_reducible first | exact HB.out | apply below_alloc | apply pw_below_drewN | apply below_drew1 | refine below_set ?_ GE258.out | refine below_set ?_ GE259.out | refine below_set ?_ GE274.out | refine below_set ?_ GE280.out) | exact HB.out)) hb)
           clear HO_6
           clear BK258
           clear BK259
           clear BK274
           clear BK280
           clear HB
           have HO_6 := n0_
           have BK258 := n1_
           have BK259 := n2_
           have BK274 := n3_
           have BK280 := n4_
           have HB := n5_
           clear n0_ n1_ n2_ n3_ n4_ n5_
           (try clear hb)
           (try clear hb2)
           (try clear hk)
           (try clear hi)
           refine hK.out _ _ ⟨(blk_cell BK258.out 0).trans rfl, (blk_cell BK258.out 1).trans rfl, ((HB.out.cell (World.block_lt_of_cell? w _ hw275_0)).trans hw275_0), ((HB.out.cell (World.block_lt_of_cell? w _ hw275_1)).trans hw275_1), ((HB.out.cell (World.block_lt_of_cell? w _ hw275_2)).trans hw275_2), ((HB.out.cell (World.block_lt_of_cell? w _ hw275_3)).trans hw275_3)⟩ (fun hHeld => ?_)
           clear hK K
           refine norm_ (a' := ?_) ?_ ?_
           rotate_left
           ·show Act.put _ (some 61) _ = _
            simp only [Act.put, List.setIfInBounds_toArray, List.set_cons_zero, List.set_cons_succ, i64_w, i32_w]
            rfl
           refine pure_ (i := 7) (N := some 54) (v := ?_) (a' := ?_) #[true, true, true, true, true, true, true, true, false, false, true, false, false] rfl rfl (any_of HT_.out (by kernel_rfl)) (fun _ _ _ h => h) (Or.inl ⟨by rfl, ?_⟩) ?_ ?_
           rotate_left
           ·intro w'
            go_simp
            with_reducible rfl
           rotate_left
           ·simp only [Act.put, List.setIfInBounds_toArray, List.set_cons_zero, List.set_cons_succ, i64_w, i32_w]
            rfl
           refine pure_ (i := 8) (N := some 62) (v := ?_) (a' := ?_) #[true, true, true, true, true, true, true, true, true, false, true, false, false] rfl rfl (any_of HT_.out (by kernel_rfl)) (fun _ _ _ h => h) (Or.inl ⟨by rfl, ?_⟩) ?_ ?_
           rotate_left
           ·intro w'
            go_simp
            with_reducible rfl
           rotate_left
           ·simp only [Act.put, List.setIfInBounds_toArray, List.set_cons_zero, List.set_cons_succ, i64_w, i32_w]
            rfl
           refine pure_ (i := 9) (N := some 63) (v := ?_) (a' := ?_) #[true, true, true, true, true, true, true, true, true, true, true, false, false] rfl rfl (any_of HT_.out (by kernel_rfl)) (fun _ _ _ h => h) (Or.inl ⟨by rfl, ?_⟩) ?_ ?_
           rotate_left
           ·intro w'
            go_simp
            with_reducible rfl
           rotate_left
           ·simp only [Act.put, List.setIfInBounds_toArray, List.set_cons_zero, List.set_cons_succ, i64_w, i32_w]
            rfl
           exact norm_ (by simp only [putAll, Act.put, List.setIfInBounds_toArray, List.set_cons_zero, List.set_cons_succ]) (hCont (gb280) _ ⟨hHeld, (by (with_reducible repeat (first | apply Kd.R_alloc | apply Kd.R_drewN | apply Kd.R_drew)); exact HO_6.out), (by (with_reducible repeat (first | refine blk_drewN ?_ _ | refine blk_drew ?_ | refine blk_alloc ?_ _)); exact BK258.out), (by (with_reducible repeat (first | refine blk_drewN ?_ _ | refine blk_drew ?_ | refine blk_alloc ?_ _)); exact BK259.out), (by (with_reducible repeat (first | refine blk_drewN ?_ _ | refine blk_drew ?_ | refine blk_alloc ?_ _)); exact BK274.out), (by (with_reducible repeat (first | refine blk_drewN ?_ _ | refine blk_drew ?_ | refine blk_alloc ?_ _)); exact BK280.out), GW280.out, GE280.out, NB258_280.out, NB280_258.out, NB259_280.out, NB280_259.out, NB274_280.out, NB280_274.out, (by repeat (first | (with_reducible first | exact HB.out | apply below_alloc | apply pw_below_drewN | apply below_drew1 | refine below_set ?_ GE258.out | refine below_set ?_ GE259.out | refine below_set ?_ GE274.out | refine below_set ?_ GE280.out) | exact HB.out))⟩)
         rintro gb280 w33 ⟨hS_, h0_, h1_, h2_, h3_, h4_, h5_, h6_, h7_, h8_, h9_, h10_, h11_, h12_, h13_⟩
         have n0_ : Aside0 (Kd.R k29 29 w33 w.heap.size (fun k_ => k_ ≠ gb274 ∧ k_ ≠ gb280) u6 x6_1) := ⟨h0_⟩
         have n1_ : Aside0 (w33.heap[gb258]? = some (.cells #[.int .i64 a0_0, .int .i64 a0_1] 24 (0, 0))) := ⟨h1_⟩
         have n2_ : Aside0 (w33.heap[gb259]? = some (.cells #[.int .i64 x260000_1, .bool x260001_1, .string x260002_1, .string x260003_1] 31 (0, 0))) := ⟨h2_⟩
         have n3_ : Aside0 (w33.heap[gb274]? = some (.cells #[.int .i64 t270, .int .i64 t271, .string t272] 29 (0, 0))) := ⟨h3_⟩
         have n4_ : Aside0 (w33.heap[gb280]? = some (.cells #[.int .i64 0, .int .i64 0, .string (⟨#[]⟩ : ByteArray)] 29 (0, 0))) := ⟨h4_⟩
         have n5_ : Aside0 (w.heap.size ≤ gb280) := ⟨h5_⟩
         have n6_ : Aside0 (w.heap.size ≤ gb280) := ⟨h6_⟩
         have n7_ : Aside0 (gb258 ≠ gb280) := ⟨h7_⟩
         have n8_ : Aside0 (gb280 ≠ gb258) := ⟨h8_⟩
         have n9_ : Aside0 (gb259 ≠ gb280) := ⟨h9_⟩
         have n10_ : Aside0 (gb280 ≠ gb259) := ⟨h10_⟩
         have n11_ : Aside0 (gb274 ≠ gb280) := ⟨h11_⟩
         have n12_ : Aside0 (gb280 ≠ gb274) := ⟨h12_⟩
         have n13_ : Aside0 (Below w.heap.size w w33) := ⟨h13_⟩
         clear HO_6
         clear BK258
         clear BK259
         clear BK274
         clear HB
         clear h0_ h1_ h2_ h3_ h4_ h5_ h6_ h7_ h8_ h9_ h10_ h11_ h12_ h13_
         have HO_6 := n0_
         have BK258 := n1_
         have BK259 := n2_
         have BK274 := n3_
         have BK280 := n4_
         have GW280 := n5_
         have GE280 := n6_
         have NB258_280 := n7_
         have NB280_258 := n8_
         have NB259_280 := n9_
         have NB280_259 := n10_
         have NB274_280 := n11_
         have NB280_274 := n12_
         have HB := n13_
         clear n0_ n1_ n2_ n3_ n4_ n5_ n6_ n7_ n8_ n9_ n10_ n11_ n12_ n13_
         have hHeld : w33.cell? ⟨gb258, 0, none⟩ = some (.int .i64 a0_0) ∧ w33.cell? ⟨gb258, 1, none⟩ = some (.int .i64 a0_1) ∧ w33.cell? (ad265.add ((x8_1).toNat * 4)) = some (.int .i64 ((rd_T31 l1 x8_1).f0)) ∧ w33.cell? ⟨(ad265.add ((x8_1).toNat * 4)).block, (ad265.add ((x8_1).toNat * 4)).off + 1, none⟩ = some (.bool (true)) ∧ w33.cell? ⟨(ad265.add ((x8_1).toNat * 4)).block, (ad265.add ((x8_1).toNat * 4)).off + 2, none⟩ = some (.string ((rd_T31 l1 x8_1).f2)) ∧ w33.cell? ⟨(ad265.add ((x8_1).toNat * 4)).block, (ad265.add ((x8_1).toNat * 4)).off + 3, none⟩ = some (.string ((rd_T31 l1 x8_1).f3)) := hS_
         refine norm_ (a' := ?_) ?_ ?_
         rotate_left
         ·simp only [putAll, Act.put, List.setIfInBounds_toArray, List.set_cons_zero, List.set_cons_succ]
          rfl
         refine one_ (i := 11) (N := none) #[true, true, true, true, true, true, true, true, true, true, true, true, false] rfl rfl (one_of HT_.out (by kernel_rfl)) (by decide) (fun K hK => ?_)
         have hs34 : w33.cell? ⟨gb280, 0, none⟩ = some (.int .i64 0) := (blk_cell BK280.out 0).trans rfl
         have hfs34 := blk_frozen BK280.out 0
         have hns34_0 := NB258_280.out
         have hns34_1 := NB259_280.out
         have hns34_2 := NB274_280.out
         have hms34_0 := NB280_258.out
         have hms34_1 := NB280_259.out
         have hms34_2 := NB280_274.out
         have hs35 : w33.cell? ⟨gb280, 1, none⟩ = some (.int .i64 0) := (blk_cell BK280.out 1).trans rfl
         have hfs35 := blk_frozen BK280.out 1
         have hns35_0 := NB258_280.out
         have hns35_1 := NB259_280.out
         have hns35_2 := NB274_280.out
         have hms35_0 := NB280_258.out
         have hms35_1 := NB280_259.out
         have hms35_2 := NB280_274.out
         have hs36 : w33.cell? ⟨gb280, 2, none⟩ = some (.string (⟨#[]⟩ : ByteArray)) := (blk_cell BK280.out 2).trans rfl
         have hfs36 := blk_frozen BK280.out 2
         have hns36_0 := NB258_280.out
         have hns36_1 := NB259_280.out
         have hns36_2 := NB274_280.out
         have hms36_0 := NB280_258.out
         have hms36_1 := NB280_259.out
         have hms36_2 := NB280_274.out
         refine skip_ (w1 := ?_) (by rfl) rfl ?_ ?_
         rotate_left
         ·go_simp
          rfl
         refine hK.out _ _ ⟨((cell_far (p := ⟨gb280, _, none⟩) NB258_280.out _).trans (((cell_far (p := ⟨gb280, _, none⟩) NB258_280.out _).trans (((cell_far (p := ⟨gb280, _, none⟩) NB258_280.out _).trans (hHeld.1)))))), ((cell_far (p := ⟨gb280, _, none⟩) NB258_280.out _).trans (((cell_far (p := ⟨gb280, _, none⟩) NB258_280.out _).trans (((cell_far (p := ⟨gb280, _, none⟩) NB258_280.out _).trans (hHeld.2.1)))))), ((cell_far (p := ⟨gb280, _, none⟩) (by first | exact Nat.ne_of_lt (Nat.lt_of_lt_of_le (by have := World.block_lt_of_cell? _ _ hw275_0; first | rwa [add_block] at this | exact this) GW280.out) | (rw [add_block]; exact Nat.ne_of_lt (Nat.lt_of_lt_of_le (by have := World.block_lt_of_cell? _ _ hw275_0; first | rwa [add_block] at this | exact this) GW280.out)) | (show (Addr.add _ _).block ≠ _; rw [add_block]; exact Nat.ne_of_lt (Nat.lt_of_lt_of_le (by have := World.block_lt_of_cell? _ _ hw275_0; first | rwa [add_block] at this | exact this) GW280.out)) | (dsimp only; exact Nat.ne_of_lt (Nat.lt_of_lt_of_le (by have := World.block_lt_of_cell? _ _ hw275_0; first | rwa [add_block] at this | exact this) GW280.out))) _).trans (((cell_far (p := ⟨gb280, _, none⟩) (by first | exact Nat.ne_of_lt (Nat.lt_of_lt_of_le (by have := World.block_lt_of_cell? _ _ hw275_0; first | rwa [add_block] at this | exact this) GW280.out) | (rw [add_block]; exact Nat.ne_of_lt (Nat.lt_of_lt_of_le (by have := World.block_lt_of_cell? _ _ hw275_0; first | rwa [add_block] at this | exact this) GW280.out)) | (show (Addr.add _ _).block ≠ _; rw [add_block]; exact Nat.ne_of_lt (Nat.lt_of_lt_of_le (by have := World.block_lt_of_cell? _ _ hw275_0; first | rwa [add_block] at this | exact this) GW280.out)) | (dsimp only; exact Nat.ne_of_lt (Nat.lt_of_lt_of_le (by have := World.block_lt_of_cell? _ _ hw275_0; first | rwa [add_block] at this | exact this) GW280.out))) _).trans (((cell_far (p := ⟨gb280, _, none⟩) (by first | exact Nat.ne_of_lt (Nat.lt_of_lt_of_le (by have := World.block_lt_of_cell? _ _ hw275_0; first | rwa [add_block] at this | exact this) GW280.out) | (rw [add_block]; exact Nat.ne_of_lt (Nat.lt_of_lt_of_le (by have := World.block_lt_of_cell? _ _ hw275_0; first | rwa [add_block] at this | exact this) GW280.out)) | (show (Addr.add _ _).block ≠ _; rw [add_block]; exact Nat.ne_of_lt (Nat.lt_of_lt_of_le (by have := World.block_lt_of_cell? _ _ hw275_0; first | rwa [add_block] at this | exact this) GW280.out)) | (dsimp only; exact Nat.ne_of_lt (Nat.lt_of_lt_of_le (by have := World.block_lt_of_cell? _ _ hw275_0; first | rwa [add_block] at this | exact this) GW280.out))) _).trans (hHeld.2.2.1)))))), ((cell_far (p := ⟨gb280, _, none⟩) (by first | exact Nat.ne_of_lt (Nat.lt_of_lt_of_le (by have := World.block_lt_of_cell? _ _ hw275_1; first | rwa [add_block] at this | exact this) GW280.out) | (rw [add_block]; exact Nat.ne_of_lt (Nat.lt_of_lt_of_le (by have := World.block_lt_of_cell? _ _ hw275_1; first | rwa [add_block] at this | exact this) GW280.out)) | (show (Addr.add _ _).block ≠ _; rw [add_block]; exact Nat.ne_of_lt (Nat.lt_of_lt_of_le (by have := World.block_lt_of_cell? _ _ hw275_1; first | rwa [add_block] at this | exact this) GW280.out)) | (dsimp only; exact Nat.ne_of_lt (Nat.lt_of_lt_of_le (by have := World.block_lt_of_cell? _ _ hw275_1; first | rwa [add_block] at this | exact this) GW280.out))) _).trans (((cell_far (p := ⟨gb280, _, none⟩) (by first | exact Nat.ne_of_lt (Nat.lt_of_lt_of_le (by have := World.block_lt_of_cell? _ _ hw275_1; first | rwa [add_block] at this | exact this) GW280.out) | (rw [add_block]; exact Nat.ne_of_lt (Nat.lt_of_lt_of_le (by have := World.block_lt_of_cell? _ _ hw275_1; first | rwa [add_block] at this | exact this) GW280.out)) | (show (Addr.add _ _).block ≠ _; rw [add_block]; exact Nat.ne_of_lt (Nat.lt_of_lt_of_le (by have := World.block_lt_of_cell? _ _ hw275_1; first | rwa [add_block] at this | exact this) GW280.out)) | (dsimp only; exact Nat.ne_of_lt (Nat.lt_of_lt_of_le (by have := World.block_lt_of_cell? _ _ hw275_1; first | rwa [add_block] at this | exact this) GW280.out))) _).trans (((cell_far (p := ⟨gb280, _, none⟩) (by first | exact Nat.ne_of_lt (Nat.lt_of_lt_of_le (by have := World.block_lt_of_cell? _ _ hw275_1; first | rwa [add_block] at this | exact this) GW280.out) | (rw [add_block]; exact Nat.ne_of_lt (Nat.lt_of_lt_of_le (by have := World.block_lt_of_cell? _ _ hw275_1; first | rwa [add_block] at this | exact this) GW280.out)) | (show (Addr.add _ _).block ≠ _; rw [add_block]; exact Nat.ne_of_lt (Nat.lt_of_lt_of_le (by have := World.block_lt_of_cell? _ _ hw275_1; first | rwa [add_block] at this | exact this) GW280.out)) | (dsimp only; exact Nat.ne_of_lt (Nat.lt_of_lt_of_le (by have := World.block_lt_of_cell? _ _ hw275_1; first | rwa [add_block] at this | exact this) GW280.out))) _).trans (hHeld.2.2.2.1)))))), ((cell_far (p := ⟨gb280, _, none⟩) (by first | exact Nat.ne_of_lt (Nat.lt_of_lt_of_le (by have := World.block_lt_of_cell? _ _ hw275_2; first | rwa [add_block] at this | exact this) GW280.out) | (rw [add_block]; exact Nat.ne_of_lt (Nat.lt_of_lt_of_le (by have := World.block_lt_of_cell? _ _ hw275_2; first | rwa [add_block] at this | exact this) GW280.out)) | (show (Addr.add _ _).block ≠ _; rw [add_block]; exact Nat.ne_of_lt (Nat.lt_of_lt_of_le (by have := World.block_lt_of_cell? _ _ hw275_2; first | rwa [add_block] at this | exact this) GW280.out)) | (dsimp only; exact Nat.ne_of_lt (Nat.lt_of_lt_of_le (by have := World.block_lt_of_cell? _ _ hw275_2; first | rwa [add_block] at this | exact this) GW280.out))) _).trans (((cell_far (p := ⟨gb280, _, none⟩) (by first | exact Nat.ne_of_lt (Nat.lt_of_lt_of_le (by have := World.block_lt_of_cell? _ _ hw275_2; first | rwa [add_block] at this | exact this) GW280.out) | (rw [add_block]; exact Nat.ne_of_lt (Nat.lt_of_lt_of_le (by have := World.block_lt_of_cell? _ _ hw275_2; first | rwa [add_block] at this | exact this) GW280.out)) | (show (Addr.add _ _).block ≠ _; rw [add_block]; exact Nat.ne_of_lt (Nat.lt_of_lt_of_le (by have := World.block_lt_of_cell? _ _ hw275_2; first | rwa [add_block] at this | exact this) GW280.out)) | (dsimp only; exact Nat.ne_of_lt (Nat.lt_of_lt_of_le (by have := World.block_lt_of_cell? _ _ hw275_2; first | rwa [add_block] at this | exact this) GW280.out))) _).trans (((cell_far (p := ⟨gb280, _, none⟩) (by first | exact Nat.ne_of_lt (Nat.lt_of_lt_of_le (by have := World.block_lt_of_cell? _ _ hw275_2; first | rwa [add_block] at this | exact this) GW280.out) | (rw [add_block]; exact Nat.ne_of_lt (Nat.lt_of_lt_of_le (by have := World.block_lt_of_cell? _ _ hw275_2; first | rwa [add_block] at this | exact this) GW280.out)) | (show (Addr.add _ _).block ≠ _; rw [add_block]; exact Nat.ne_of_lt (Nat.lt_of_lt_of_le (by have := World.block_lt_of_cell? _ _ hw275_2; first | rwa [add_block] at this | exact this) GW280.out)) | (dsimp only; exact Nat.ne_of_lt (Nat.lt_of_lt_of_le (by have := World.block_lt_of_cell? _ _ hw275_2; first | rwa [add_block] at this | exact this) GW280.out))) _).trans (hHeld.2.2.2.2.1)))))), ((cell_far (p := ⟨gb280, _, none⟩) (by first | exact Nat.ne_of_lt (Nat.lt_of_lt_of_le (by have := World.block_lt_of_cell? _ _ hw275_3; first | rwa [add_block] at this | exact this) GW280.out) | (rw [add_block]; exact Nat.ne_of_lt (Nat.lt_of_lt_of_le (by have := World.block_lt_of_cell? _ _ hw275_3; first | rwa [add_block] at this | exact this) GW280.out)) | (show (Addr.add _ _).block ≠ _; rw [add_block]; exact Nat.ne_of_lt (Nat.lt_of_lt_of_le (by have := World.block_lt_of_cell? _ _ hw275_3; first | rwa [add_block] at this | exact this) GW280.out)) | (dsimp only; exact Nat.ne_of_lt (Nat.lt_of_lt_of_le (by have := World.block_lt_of_cell? _ _ hw275_3; first | rwa [add_block] at this | exact this) GW280.out))) _).trans (((cell_far (p := ⟨gb280, _, none⟩) (by first | exact Nat.ne_of_lt (Nat.lt_of_lt_of_le (by have := World.block_lt_of_cell? _ _ hw275_3; first | rwa [add_block] at this | exact this) GW280.out) | (rw [add_block]; exact Nat.ne_of_lt (Nat.lt_of_lt_of_le (by have := World.block_lt_of_cell? _ _ hw275_3; first | rwa [add_block] at this | exact this) GW280.out)) | (show (Addr.add _ _).block ≠ _; rw [add_block]; exact Nat.ne_of_lt (Nat.lt_of_lt_of_le (by have := World.block_lt_of_cell? _ _ hw275_3; first | rwa [add_block] at this | exact this) GW280.out)) | (dsimp only; exact Nat.ne_of_lt (Nat.lt_of_lt_of_le (by have := World.block_lt_of_cell? _ _ hw275_3; first | rwa [add_block] at this | exact this) GW280.out))) _).trans (((cell_far (p := ⟨gb280, _, none⟩) (by first | exact Nat.ne_of_lt (Nat.lt_of_lt_of_le (by have := World.block_lt_of_cell? _ _ hw275_3; first | rwa [add_block] at this | exact this) GW280.out) | (rw [add_block]; exact Nat.ne_of_lt (Nat.lt_of_lt_of_le (by have := World.block_lt_of_cell? _ _ hw275_3; first | rwa [add_block] at this | exact this) GW280.out)) | (show (Addr.add _ _).block ≠ _; rw [add_block]; exact Nat.ne_of_lt (Nat.lt_of_lt_of_le (by have := World.block_lt_of_cell? _ _ hw275_3; first | rwa [add_block] at this | exact this) GW280.out)) | (dsimp only; exact Nat.ne_of_lt (Nat.lt_of_lt_of_le (by have := World.block_lt_of_cell? _ _ hw275_3; first | rwa [add_block] at this | exact this) GW280.out))) _).trans (hHeld.2.2.2.2.2))))))⟩ (fun hHeld => ?_)
         clear hK K
         refine pure_ (i := 12) (N := some 12) (v := ?_) (a' := ?_) #[true, true, true, true, true, true, true, true, true, true, true, true, true] rfl rfl (any_of HT_.out (by kernel_rfl)) (fun _ _ _ h => h) (Or.inl ⟨by rfl, ?_⟩) ?_ ?_
         rotate_left
         ·intro w'
          go_simp
          with_reducible rfl
         rotate_left
         ·simp only [Act.put, List.setIfInBounds_toArray, List.set_cons_zero, List.set_cons_succ, i64_w, i32_w]
          rfl
         refine done_ (done_of HT_.out (by kernel_rfl)) ?_
         have hnb37 := NB274_258.out
         have hnc37 := NB258_274.out
         have hnb38 := NB274_259.out
         have hnc38 := NB259_274.out
         have hnb39 := NB274_280.out
         have hnc39 := NB280_274.out
         have hcz40_0 : w33.cell? ⟨gb274, 0, none⟩ = some (.int .i64 t270) := (blk_cell BK274.out 0).trans rfl
         have hcz40_1 : w33.cell? ⟨gb274, 1, none⟩ = some (.int .i64 t271) := (blk_cell BK274.out 1).trans rfl
         have hcz40_2 : w33.cell? ⟨gb274, 2, none⟩ = some (.string t272) := (blk_cell BK274.out 2).trans rfl
         have hfz40_0 := blk_frozen BK274.out 0
         have hfz40_1 := blk_frozen BK274.out 1
         have hfz40_2 := blk_frozen BK274.out 2
         have hnb41 := NB280_258.out
         have hnc41 := NB258_280.out
         have hnb42 := NB280_259.out
         have hnc42 := NB259_280.out
         have hcz43_0 : w33.cell? ⟨gb280, 0, none⟩ = some (.int .i64 0) := (blk_cell BK280.out 0).trans rfl
         have hcz43_1 : w33.cell? ⟨gb280, 1, none⟩ = some (.int .i64 0) := (blk_cell BK280.out 1).trans rfl
         have hcz43_2 : w33.cell? ⟨gb280, 2, none⟩ = some (.string (⟨#[]⟩ : ByteArray)) := (blk_cell BK280.out 2).trans rfl
         have hfz43_0 := blk_frozen BK280.out 0
         have hfz43_1 := blk_frozen BK280.out 1
         have hfz43_2 := blk_frozen BK280.out 2
         try go_wp2_with (first | ((with_reducible refine gate_dst (N := 67) rfl ?_); refine Kd.R_lit k29 _ 29 ?hg (N := 67) ?hd (xs := ([(⟨t270, t271, t272⟩ : S29), (⟨t276, t277, t278⟩ : S29)] : List (S29))) (inner := [.int .i64 t270, .int .i64 t271, .string t272, .int .i64 t276, .int .i64 t277, .string t278]) (ok := fun _ => True) (okp := fun _ => True) ?hr ?hp (fun _ hk => hk) trivial (Below.refl _ _) (Nat.le_refl _) (by simp) ?_; (case hd => rfl); (case hg => rfl); (case hr => first | (go_simp; done) | (go_simp; rfl)); (case hp => exact (Reps.c3 (show Kd.M k29 _ _ _ (⟨t270, t271, t272⟩ : S29) [.int .i64 t270, .int .i64 t271, .string t272] from (k29_mkM _ _ _ (⟨t270, t271, t272⟩ : S29) )) (Reps.c3 (show Kd.M k29 _ _ _ (⟨t276, t277, t278⟩ : S29) [.int .i64 t276, .int .i64 t277, .string t278] from (k29_mkM _ _ _ (⟨t276, t277, t278⟩ : S29) )) (Reps.none _ _)))); intro v282 w44 ho45 hb hg_ hnew_; clear hg_ hnew_; (first | rw [← Ny281.out] at ho45 | (simp only [Int.reduceToNat] at ho45; rw [← Ny281.out] at ho45)); have n0_ := Aside0.mk (Kd.R_elder' (by (with_reducible repeat (first | apply Kd.R_alloc | apply Kd.R_drewN | apply Kd.R_drew)); exact (Kd.R_mono (Kd.R_far (p := ⟨gb280, 2, none⟩) (Kd.R_far (p := ⟨gb280, 1, none⟩) (Kd.R_far (p := ⟨gb280, 0, none⟩) (Kd.R_mono HO_6.out (fun k_ hk => (⟨hk, hk.2⟩ : _ ∧ k_ ≠ gb280))) (fun _ hk => hk.2) (.int .i64 t276)) (fun _ hk => hk.2) (.int .i64 t277)) (fun _ hk => hk.2) (.string t278)) (fun _ h_ => h_.1))) (Kd.R_base ho45) hb); have n1_ := Aside0.mk (Kd.R_lower (Kd.R_newB (Kd.R_newB (Kd.R_new' ho45 (Kd.R_lt (by (with_reducible repeat (first | apply Kd.R_alloc | apply Kd.R_drewN | apply Kd.R_drew)); exact (Kd.R_mono (Kd.R_far (p := ⟨gb280, 2, none⟩) (Kd.R_far (p := ⟨gb280, 1, none⟩) (Kd.R_far (p := ⟨gb280, 0, none⟩) (Kd.R_mono HO_6.out (fun k_ hk => (⟨hk, hk.2⟩ : _ ∧ k_ ≠ gb280))) (fun _ hk => hk.2) (.int .i64 t276)) (fun _ hk => hk.2) (.int .i64 t277)) (fun _ hk => hk.2) (.string t278)) (fun _ h_ => h_.1))))) (g := gb274) (o := .cells #[.int .i64 t270, .int .i64 t271, .string t272] 29 (0, 0)) (by (with_reducible repeat (first | refine blk_drewN ?_ _ | refine blk_drew ?_ | refine blk_alloc ?_ _)); refine blk_far ?_ NB274_280.out _; (with_reducible repeat (first | refine blk_drewN ?_ _ | refine blk_drew ?_ | refine blk_alloc ?_ _)); refine blk_far ?_ NB274_280.out _; (with_reducible repeat (first | refine blk_drewN ?_ _ | refine blk_drew ?_ | refine blk_alloc ?_ _)); refine blk_far ?_ NB274_280.out _; (with_reducible repeat (first | refine blk_drewN ?_ _ | refine blk_drew ?_ | refine blk_alloc ?_ _)); exact BK274.out)) (g := gb280) (o := .cells #[.int .i64 t276, .int .i64 t277, .string t278] 29 (0, 0)) (by (with_reducible repeat (first | refine blk_drewN ?_ _ | refine blk_drew ?_ | refine blk_alloc ?_ _)); refine blk_put (cs := #[.int .i64 t276, .int .i64 t277, .string (⟨#[]⟩ : ByteArray)]) ?_ 2 _ rfl; (with_reducible repeat (first | refine blk_drewN ?_ _ | refine blk_drew ?_ | refine blk_alloc ?_ _)); refine blk_put (cs := #[.int .i64 t276, .int .i64 0, .string (⟨#[]⟩ : ByteArray)]) ?_ 1 _ rfl; (with_reducible repeat (first | refine blk_drewN ?_ _ | refine blk_drew ?_ | refine blk_alloc ?_ _)); refine blk_put (cs := #[.int .i64 0, .int .i64 0, .string (⟨#[]⟩ : ByteArray)]) ?_ 0 _ rfl; (with_reducible repeat (first | refine blk_drewN ?_ _ | refine blk_drew ?_ | refine blk_alloc ?_ _)); exact BK280.out)) (below_size (by repeat (first | (with_reducible first | exact HB.out | apply below_alloc | apply pw_below_drewN | apply below_drew1 | refine below_set ?_ GE258.out | refine below_set ?_ GE259.out | refine below_set ?_ GE274.out | refine below_set ?_ GE280.out) | exact HB.out)))); have n2_ := Aside0.mk (blk_below (g := gb258) (o := .cells #[.int .i64 a0_0, .int .i64 a0_1] 24 (0, 0)) (by (with_reducible repeat (first | refine blk_drewN ?_ _ | refine blk_drew ?_ | refine blk_alloc ?_ _)); refine blk_far ?_ NB258_280.out _; (with_reducible repeat (first | refine blk_drewN ?_ _ | refine blk_drew ?_ | refine blk_alloc ?_ _)); refine blk_far ?_ NB258_280.out _; (with_reducible repeat (first | refine blk_drewN ?_ _ | refine blk_drew ?_ | refine blk_alloc ?_ _)); refine blk_far ?_ NB258_280.out _; (with_reducible repeat (first | refine blk_drewN ?_ _ | refine blk_drew ?_ | refine blk_alloc ?_ _)); exact BK258.out) hb); have n3_ := Aside0.mk (blk_below (g := gb259) (o := .cells #[.int .i64 x260000_1, .bool x260001_1, .string x260002_1, .string x260003_1] 31 (0, 0)) (by (with_reducible repeat (first | refine blk_drewN ?_ _ | refine blk_drew ?_ | refine blk_alloc ?_ _)); refine blk_far ?_ NB259_280.out _; (with_reducible repeat (first | refine blk_drewN ?_ _ | refine blk_drew ?_ | refine blk_alloc ?_ _)); refine blk_far ?_ NB259_280.out _; (with_reducible repeat (first | refine blk_drewN ?_ _ | refine blk_drew ?_ | refine blk_alloc ?_ _)); refine blk_far ?_ NB259_280.out _; (with_reducible repeat (first | refine blk_drewN ?_ _ | refine blk_drew ?_ | refine blk_alloc ?_ _)); exact BK259.out) hb); have n4_ := Aside0.mk (blk_below (g := gb274) (o := .cells #[.int .i64 t270, .int .i64 t271, .string t272] 29 (0, 0)) (by (with_reducible repeat (first | refine blk_drewN ?_ _ | refine blk_drew ?_ | refine blk_alloc ?_ _)); refine blk_far ?_ NB274_280.out _; (with_reducible repeat (first | refine blk_drewN ?_ _ | refine blk_drew ?_ | refine blk_alloc ?_ _)); refine blk_far ?_ NB274_280.out _; (with_reducible repeat (first | refine blk_drewN ?_ _ | refine blk_drew ?_ | refine blk_alloc ?_ _)); refine blk_far ?_ NB274_280.out _; (with_reducible repeat (first | refine blk_drewN ?_ _ | refine blk_drew ?_ | refine blk_alloc ?_ _)); exact BK274.out) hb); have n5_ := Aside0.mk (blk_below (g := gb280) (o := .cells #[.int .i64 t276, .int .i64 t277, .string t278] 29 (0, 0)) (by (with_reducible repeat (first | refine blk_drewN ?_ _ | refine blk_drew ?_ | refine blk_alloc ?_ _)); refine blk_put (cs := #[.int .i64 t276, .int .i64 t277, .string (⟨#[]⟩ : ByteArray)]) ?_ 2 _ rfl; (with_reducible repeat (first | refine blk_drewN ?_ _ | refine blk_drew ?_ | refine blk_alloc ?_ _)); refine blk_put (cs := #[.int .i64 t276, .int .i64 0, .string (⟨#[]⟩ : ByteArray)]) ?_ 1 _ rfl; (with_reducible repeat (first | refine blk_drewN ?_ _ | refine blk_drew ?_ | refine blk_alloc ?_ _)); refine blk_put (cs := #[.int .i64 0, .int .i64 0, .string (⟨#[]⟩ : ByteArray)]) ?_ 0 _ rfl; (with_reducible repeat (first | refine blk_drewN ?_ _ | refine blk_drew ?_ | refine blk_alloc ?_ _)); exact BK280.out) hb); have n6_ := Aside0.mk (below_step (by repeat (first | (with_reducible first | exact HB.out | apply below_alloc | apply pw_below_drewN | apply below_drew1 | refine below_set ?_ GE258.out | refine below_set ?_ GE259.out | refine below_set ?_ GE274.out | refine below_set ?_ GE280.out) | exact HB.out)) hb); clear HO_6; clear BK258; clear BK259; clear BK274; clear BK280; clear HB; have HO_6 := n0_; have HO283 := n1_; have BK258 := n2_; have BK259 := n3_; have BK274 := n4_; have BK280 := n5_; have HB := n6_; clear n0_ n1_ n2_ n3_ n4_ n5_ n6_; clear hb ho45; obtain ⟨Ao47, co47, eo47⟩ := Kd.R_slice HO283.out; subst eo47) | ((with_reducible refine gate_builtin (b := .append) (xs := #[.tmp 64, .tmp 67]) rfl ?_); at_builtin; refine Kd.R_append_rows k29 (w0 := w) w.heap.size rfl (.tmp 64) (.tmp 67) 25 29 (.agg #[(.int .i64 0), (.int .i64 0), (.string ⟨#[]⟩)]) 32 rfl Try.underlying25 info29 rfl (by decide) (by omega) u6 x6_1 y281 _ _ _ (fun k_ => some k_ ≠ (.slice Ao47 y281.length co47 : Value).ownBlock ∧ k_ ≠ gb274 ∧ k_ ≠ gb280) (fun _ => False) rfl rfl ?aO ?aR (fun _ _ h => h) (fun _ h => h.elim) ?aF ?aB ?aS ?aL ?_; (case aR => repeat (first | exact (Kd.R_reads' HO283.out).2.2 | (with_reducible refine Kd.C_alloc ?_ _) | (with_reducible refine Kd.C_drewN ?_ _) | (with_reducible refine Kd.C_drew ?_))); (case aB => exact (by repeat (first | (with_reducible first | exact HB.out | apply below_alloc | apply pw_below_drewN | apply below_drew1 | refine below_set ?_ GE258.out | refine below_set ?_ GE259.out | refine below_set ?_ GE274.out | refine below_set ?_ GE280.out) | exact HB.out))); (case aF => exact (fun k_ hk => ⟨Kd.fresh' (Kd.R_lt (by (with_reducible repeat (first | apply Kd.R_alloc | apply Kd.R_drewN | apply Kd.R_drew)); exact HO283.out)) k_ hk, Kd.freshB (g := gb274) (o := .cells #[.int .i64 t270, .int .i64 t271, .string t272] 29 (0, 0)) (by (with_reducible repeat (first | refine blk_drewN ?_ _ | refine blk_drew ?_ | refine blk_alloc ?_ _)); exact BK274.out) k_ hk, Kd.freshB (g := gb280) (o := .cells #[.int .i64 t276, .int .i64 t277, .string t278] 29 (0, 0)) (by (with_reducible repeat (first | refine blk_drewN ?_ _ | refine blk_drew ?_ | refine blk_alloc ?_ _)); exact BK280.out) k_ hk⟩)); (case aO => exact (by (with_reducible repeat (first | apply Kd.R_alloc | apply Kd.R_drewN | apply Kd.R_drew)); exact Kd.R_mono HO_6.out (fun _ hk => ⟨hk.2, ⟨hk.1.1, hk.1.2⟩⟩))); (case aS => exact (below_size (by repeat (first | (with_reducible first | exact HB.out | apply below_alloc | apply pw_below_drewN | apply below_drew1 | refine below_set ?_ GE258.out | refine below_set ?_ GE259.out | refine below_set ?_ GE274.out | refine below_set ?_ GE280.out) | exact HB.out)))); (case aL => have := LMc19.out; omega); intro v285 w46 ho hb hg hat; rw [← Ny284.out] at ho; have n0_ := Aside0.mk (blk_grown (g := gb258) (o := .cells #[.int .i64 a0_0, .int .i64 a0_1] 24 (0, 0)) (by (with_reducible repeat (first | refine blk_drewN ?_ _ | refine blk_drew ?_ | refine blk_alloc ?_ _)); exact BK258.out) hg (Kd.R_ne HO_6.out BK258.out (by decide))); have n1_ := Aside0.mk (blk_grown (g := gb259) (o := .cells #[.int .i64 x260000_1, .bool x260001_1, .string x260002_1, .string x260003_1] 31 (0, 0)) (by (with_reducible repeat (first | refine blk_drewN ?_ _ | refine blk_drew ?_ | refine blk_alloc ?_ _)); exact BK259.out) hg (Kd.R_ne HO_6.out BK259.out (by decide))); have n2_ := Aside0.mk (blk_grown (g := gb274) (o := .cells #[.int .i64 t270, .int .i64 t271, .string t272] 29 (0, 0)) (by (with_reducible repeat (first | refine blk_drewN ?_ _ | refine blk_drew ?_ | refine blk_alloc ?_ _)); exact BK274.out) hg (Kd.R_away HO_6.out (fun _ hk => hk.1.1))); have n3_ := Aside0.mk (blk_grown (g := gb280) (o := .cells #[.int .i64 t276, .int .i64 t277, .string t278] 29 (0, 0)) (by (with_reducible repeat (first | refine blk_drewN ?_ _ | refine blk_drew ?_ | refine blk_alloc ?_ _)); exact BK280.out) hg (Kd.R_away HO_6.out (fun _ hk => hk.1.2))); have n4_ := Aside0.mk (Kd.R_after (ok := (fun k_ => k_ ≠ gb274 ∧ k_ ≠ gb280)) (by (with_reducible repeat (first | apply Kd.R_alloc | apply Kd.R_drewN | apply Kd.R_drew)); exact Kd.R_mono HO283.out (fun _ hk => ⟨⟨hk.1.2, hk.2⟩, hk.1.1.2⟩)) hg hat); have n5_ := Aside0.mk (hb); have n6_ := Aside0.mk (ho); clear BK258; clear BK259; clear BK274; clear BK280; clear HO283; clear HB; clear HO_6; have BK258 := n0_; have BK259 := n1_; have BK274 := n2_; have BK280 := n3_; have HO283 := n4_; have HB := n5_; have HO286 := n6_; clear n0_ n1_ n2_ n3_ n4_ n5_ n6_; clear ho hb hg hat))
         go_roundg k1
         case measure => have := HK1.out; omega
         case rel => exact ⟨(y284), (ji14), (wrap64 (x8_1 + 1)), (x260000_1), (x260001_1), (x260002_1), (x260003_1), (by first | rfl | (simp; done) | (simp only [← hji14] <;> (first | rfl | simp)) | (simp [*]; done)), (by first | rfl | (simp; done) | (simp [*]; done)), H', ⟨by have := HK1.out; omega⟩, ⟨by (with_reducible repeat (first | apply Kd.R_alloc | apply Kd.R_drewN | apply Kd.R_drew)); exact Kd.R_mono HO286.out (fun _ hk => trivial)⟩, ⟨by (with_reducible repeat (first | refine blk_drewN ?_ _ | refine blk_drew ?_ | refine blk_alloc ?_ _)); exact BK258.out⟩, ⟨by (with_reducible repeat (first | refine blk_drewN ?_ _ | refine blk_drew ?_ | refine blk_alloc ?_ _)); exact BK259.out⟩, ⟨by repeat (first | (with_reducible first | exact HB.out | apply below_alloc | apply pw_below_drewN | apply below_drew1 | refine below_set ?_ GE258.out | refine below_set ?_ GE259.out | refine below_set ?_ GE274.out | refine below_set ?_ GE280.out) | exact HB.out)⟩⟩
        ·rw [if_neg c19] at H
         exact absurd H (by simp)
       ·replace c16 := Bool.eq_false_iff.mpr c16
        subst c16
        (try rw [← Nbq15.out] at A12)   -- the truth in its place
        have H1 : (marquetryref22_Join.l0 k1 l1 x6_1 ji14 (wrap64 (x8_1 + 1)) a0_0 a0_1) = some (r1, r2, r3, r4, r5) := by rw [if_neg (show ¬ (false = true) by decide)] at H; exact H
        clear H
        have H := H1
        clear H1
        have H' := Aside0.mk H
        clear H
        try go_wp2
        have n0_ := Aside0.mk (Kd.R_drew HO_6.out)
        have n1_ := Aside0.mk (blk_drew BK258.out)
        have n2_ := Aside0.mk (blk_drew BK259.out)
        have n3_ := Aside0.mk (below_drew1 HB.out)
        clear HO_6
        clear BK258
        clear BK259
        clear HB
        have HO_6 := n0_
        have BK258 := n1_
        have BK259 := n2_
        have HB := n3_
        clear n0_ n1_ n2_ n3_
        have p265 : 0 ≤ (x8_1 : Int) := of_decide_eq_true (by first | (with_reducible assumption) | assumption)
        have q265 : x8_1 < (l1.length : Int) := of_decide_eq_true (by first | (with_reducible assumption) | assumption)
        obtain ⟨ad265, e265, hx265_0, hx265_1, hx265_2, hx265_3⟩ := at_T31 HR1.out x8_1 p265 q265
        have hw265_3 := hx265_3
        have hw265_2 := hx265_2
        have hw265_1 := hx265_1
        have hw265_0 := hx265_0
        (try rw [← Nbq15.out] at hx265_1)
        (try rw [← Nbq15.out] at hw265_1)
        cases e265
        replace hx265_0 := (HB.out.cell (World.block_lt_of_cell? w _ hx265_0)).trans hx265_0
        replace hx265_1 := (HB.out.cell (World.block_lt_of_cell? w _ hx265_1)).trans hx265_1
        replace hx265_2 := (HB.out.cell (World.block_lt_of_cell? w _ hx265_2)).trans hx265_2
        replace hx265_3 := (HB.out.cell (World.block_lt_of_cell? w _ hx265_3)).trans hx265_3
        replace p265 := eq_true p265
        replace q265 := eq_true q265
        refine start_ (n := 7) (S := fun w' => w'.cell? ⟨gb258, 0, none⟩ = some (.int .i64 a0_0) ∧ w'.cell? ⟨gb258, 1, none⟩ = some (.int .i64 a0_1) ∧ w'.cell? (ad265.add ((x8_1).toNat * 4)) = some (.int .i64 ((rd_T31 l1 x8_1).f0)) ∧ w'.cell? ⟨(ad265.add ((x8_1).toNat * 4)).block, (ad265.add ((x8_1).toNat * 4)).off + 1, none⟩ = some (.bool false) ∧ w'.cell? ⟨(ad265.add ((x8_1).toNat * 4)).block, (ad265.add ((x8_1).toNat * 4)).off + 2, none⟩ = some (.string ((rd_T31 l1 x8_1).f2)) ∧ w'.cell? ⟨(ad265.add ((x8_1).toNat * 4)).block, (ad265.add ((x8_1).toNat * 4)).off + 3, none⟩ = some (.string ((rd_T31 l1 x8_1).f3))) (ds := []) #[false, false, false, false, false, false, false] (by kernel_rfl) rfl rfl ⟨(blk_cell BK258.out 0).trans rfl, (blk_cell BK258.out 1).trans rfl, ((HB.out.cell (World.block_lt_of_cell? w _ hw265_0)).trans hw265_0), ((HB.out.cell (World.block_lt_of_cell? w _ hw265_1)).trans hw265_1), ((HB.out.cell (World.block_lt_of_cell? w _ hw265_2)).trans hw265_2), ((HB.out.cell (World.block_lt_of_cell? w _ hw265_3)).trans hw265_3)⟩ (fun hHeld => ?_)
        generalize wr.drew = w48 at HO_6 BK258 BK259 HB hx265_0 hx265_1 hx265_2 hx265_3 hHeld ⊢
        refine pure_ (i := 1) (N := some 24) (v := ?_) (a' := ?_) #[false, true, false, false, false, false, false] rfl rfl (by kernel_rfl) (fun _ _ _ h => h) (Or.inl ⟨by rfl, ?_⟩) ?_ ?_
        rotate_left
        ·intro w'
         go_simp
         with_reducible rfl
        rotate_left
        ·simp only [Act.put, List.setIfInBounds_toArray, List.set_cons_zero, List.set_cons_succ, i64_w, i32_w]
         rfl
        refine pure_ (i := 2) (N := some 25) (v := ?_) (a' := ?_) #[false, true, true, false, false, false, false] rfl rfl (by kernel_rfl) (fun _ _ _ h => h) (Or.inl ⟨by rfl, ?_⟩) ?_ ?_
        rotate_left
        ·intro w'
         go_simp
         with_reducible rfl
        rotate_left
        ·simp only [Act.put, List.setIfInBounds_toArray, List.set_cons_zero, List.set_cons_succ, i64_w, i32_w]
         rfl
        refine pure_ (i := 3) (N := some 26) (v := ?_) (a' := ?_) #[false, true, true, true, false, false, false] rfl rfl (by kernel_rfl) (fun _ _ _ h => h) (Or.inl ⟨by rfl, ?_⟩) ?_ ?_
        rotate_left
        ·intro w'
         go_simp
         with_reducible rfl
        rotate_left
        ·simp only [Act.put, List.setIfInBounds_toArray, List.set_cons_zero, List.set_cons_succ, i64_w, i32_w]
         rfl
        refine take_ (i := 0) (N := some 23) (v := ?_) (a' := ?_) #[true, true, true, true, false, false, false] rfl rfl (by kernel_rfl) (fun _ _ _ h => h) (Or.inl ⟨by rfl, ?_⟩) hHeld ?_ ?_
        rotate_left
        ·rintro w' ⟨s0, s1, s2, s3, s4, s5⟩
         go_simp
         with_reducible rfl
        rotate_left
        ·simp only [Act.put, List.setIfInBounds_toArray, List.set_cons_zero, List.set_cons_succ, i64_w, i32_w]
         rfl
        refine take_ (i := 4) (N := some 27) (v := ?_) (a' := ?_) #[true, true, true, true, true, false, false] rfl rfl (by kernel_rfl) (fun _ _ _ h => h) (Or.inl ⟨by rfl, ?_⟩) hHeld ?_ ?_
        rotate_left
        ·rintro w' ⟨s0, s1, s2, s3, s4, s5⟩
         go_simp
         with_reducible rfl
        rotate_left
        ·simp only [Act.put, List.setIfInBounds_toArray, List.set_cons_zero, List.set_cons_succ, i64_w, i32_w]
         rfl
        refine one_ (i := 5) (N := some 28) #[true, true, true, true, true, true, false] rfl rfl (by kernel_rfl) (by decide) (fun K hK => ?_)
        refine goes_ Try.func17 (by kernel_rfl) rfl #[.agg #[.int .i64 a0_0, .int .i64 a0_1], .agg #[.int .i64 ((rd_T31 l1 x8_1).f0), .bool false, .string ((rd_T31 l1 x8_1).f2), .string ((rd_T31 l1 x8_1).f3)]] (by rfl) rfl rfl (by (try simp only [List.map_toArray, List.map_cons, List.map_nil]); first | done | rfl | (simp only [List.length_drop, List.length_take]; rfl)) ?_
        with_reducible refine (marquetryref22_Check.calls k1 a0_0 a0_1 ((rd_T31 l1 x8_1).f0) false ((rd_T31 l1 x8_1).f2) ((rd_T31 l1 x8_1).f3) t266 _ A12.out).mono ?_
        rintro e w49 ⟨rfl, hb⟩
        refine ⟨_, rfl, ?_⟩
        have n0_ := Aside0.mk (Kd.R_below (by (with_reducible repeat (first | apply Kd.R_alloc | apply Kd.R_drewN | apply Kd.R_drew)); exact HO_6.out) hb)
        have n1_ := Aside0.mk (blk_below (g := gb258) (o := .cells #[.int .i64 a0_0, .int .i64 a0_1] 24 (0, 0)) (by (with_reducible repeat (first | refine blk_drewN ?_ _ | refine blk_drew ?_ | refine blk_alloc ?_ _)); exact BK258.out) hb)
        have n2_ := Aside0.mk (blk_below (g := gb259) (o := .cells #[.int .i64 x260000_1, .bool x260001_1, .string x260002_1, .string x260003_1] 31 (0, 0)) (by (with_reducible repeat (first | refine blk_drewN ?_ _ | refine blk_drew ?_ | refine blk_alloc ?_ _)); exact BK259.out) hb)
        have n3_ := Aside0.mk (below_step (by repeat (first | (with_reducible first | exact HB.out | apply below_alloc | apply pw_below_drewN | apply below_drew1 | refine below_set ?_ GE258.out | refine below_set ?_ GE259.out) | exact HB.out)) hb)
        clear HO_6
        clear BK258
        clear BK259
        clear HB
        have HO_6 := n0_
        have BK258 := n1_
        have BK259 := n2_
        have HB := n3_
        clear n0_ n1_ n2_ n3_
        (try clear hb)
        (try clear hb2)
        (try clear hk)
        (try clear hi)
        refine hK.out _ _ ⟨(blk_cell BK258.out 0).trans rfl, (blk_cell BK258.out 1).trans rfl, ((HB.out.cell (World.block_lt_of_cell? w _ hw265_0)).trans hw265_0), ((HB.out.cell (World.block_lt_of_cell? w _ hw265_1)).trans hw265_1), ((HB.out.cell (World.block_lt_of_cell? w _ hw265_2)).trans hw265_2), ((HB.out.cell (World.block_lt_of_cell? w _ hw265_3)).trans hw265_3)⟩ (fun hHeld => ?_)
        clear hK K
        refine norm_ (a' := ?_) ?_ ?_
        rotate_left
        ·show Act.put _ (some 28) _ = _
         simp only [Act.put, List.setIfInBounds_toArray, List.set_cons_zero, List.set_cons_succ, i64_w, i32_w]
         rfl
        refine pure_ (i := 6) (N := some 29) (v := ?_) (a' := ?_) #[true, true, true, true, true, true, true] rfl rfl (by kernel_rfl) (fun _ _ _ h => h) (Or.inl ⟨by rfl, ?_⟩) ?_ ?_
        rotate_left
        ·intro w'
         go_simp
         with_reducible rfl
        rotate_left
        ·simp only [Act.put, List.setIfInBounds_toArray, List.set_cons_zero, List.set_cons_succ, i64_w, i32_w]
         rfl
        refine done_ (by kernel_rfl) ?_
        have p267 : 0 ≤ (x8_1 : Int) := of_decide_eq_true (by first | (with_reducible assumption) | assumption)
        have q267 : x8_1 < (l1.length : Int) := of_decide_eq_true (by first | (with_reducible assumption) | assumption)
        obtain ⟨ad267, e267, hx267_0, hx267_1, hx267_2, hx267_3⟩ := at_T31 HR1.out x8_1 p267 q267
        (try rw [← Nbq15.out] at hx267_1)
        (try rw [← Nbq15.out] at hw267_1)
        obtain rfl : ad265 = ad267 := (by injection e267)
        replace hx267_0 := (HB.out.cell (World.block_lt_of_cell? w _ hx267_0)).trans hx267_0
        replace hx267_1 := (HB.out.cell (World.block_lt_of_cell? w _ hx267_1)).trans hx267_1
        replace hx267_2 := (HB.out.cell (World.block_lt_of_cell? w _ hx267_2)).trans hx267_2
        replace hx267_3 := (HB.out.cell (World.block_lt_of_cell? w _ hx267_3)).trans hx267_3
        replace p267 := eq_true p267
        replace q267 := eq_true q267
        have p268 : 0 ≤ (x8_1 : Int) := of_decide_eq_true (by first | (with_reducible assumption) | assumption)
        have q268 : x8_1 < (l1.length : Int) := of_decide_eq_true (by first | (with_reducible assumption) | assumption)
        obtain ⟨ad268, e268, hx268_0, hx268_1, hx268_2, hx268_3⟩ := at_T31 HR1.out x8_1 p268 q268
        (try rw [← Nbq15.out] at hx268_1)
        (try rw [← Nbq15.out] at hw268_1)
        obtain rfl : ad265 = ad268 := (by injection e268)
        replace hx268_0 := (HB.out.cell (World.block_lt_of_cell? w _ hx268_0)).trans hx268_0
        replace hx268_1 := (HB.out.cell (World.block_lt_of_cell? w _ hx268_1)).trans hx268_1
        replace hx268_2 := (HB.out.cell (World.block_lt_of_cell? w _ hx268_2)).trans hx268_2
        replace hx268_3 := (HB.out.cell (World.block_lt_of_cell? w _ hx268_3)).trans hx268_3
        replace p268 := eq_true p268
        replace q268 := eq_true q268
        try go_wp2
        go_roundg k1
        case measure => have := HK1.out; omega
        case rel => exact ⟨(x6_1), (ji14), (wrap64 (x8_1 + 1)), (x260000_1), (x260001_1), (x260002_1), (x260003_1), (by first | rfl | (simp; done) | (simp only [← hji14] <;> (first | rfl | simp)) | (simp [*]; done)), (by first | rfl | (simp; done) | (simp [*]; done)), H', ⟨by have := HK1.out; omega⟩, ⟨by (with_reducible repeat (first | apply Kd.R_alloc | apply Kd.R_drewN | apply Kd.R_drew)); exact HO_6.out⟩, ⟨by (with_reducible repeat (first | refine blk_drewN ?_ _ | refine blk_drew ?_ | refine blk_alloc ?_ _)); exact BK258.out⟩, ⟨by (with_reducible repeat (first | refine blk_drewN ?_ _ | refine blk_drew ?_ | refine blk_alloc ?_ _)); exact BK259.out⟩, ⟨by repeat (first | (with_reducible first | exact HB.out | apply below_alloc | apply pw_below_drewN | apply below_drew1 | refine below_set ?_ GE258.out | refine below_set ?_ GE259.out) | exact HB.out)⟩⟩
      ·rw [if_neg c13] at H
       have c13b0 : (t266 == 0) = false := beq_eq_false_iff_ne.mpr c13
       have c13b1 : (t266 != 0) = true := bne_iff_ne.mpr c13
       simp only [Option.some.injEq, Prod.mk.injEq] at H
       obtain ⟨rfl, rfl, rfl, rfl, rfl⟩ := H
       try go_wp2
       have n0_ := Aside0.mk (Kd.R_drew HO_6.out)
       have n1_ := Aside0.mk (blk_drew BK258.out)
       have n2_ := Aside0.mk (blk_drew BK259.out)
       have n3_ := Aside0.mk (below_drew1 HB.out)
       clear HO_6
       clear BK258
       clear BK259
       clear HB
       have HO_6 := n0_
       have BK258 := n1_
       have BK259 := n2_
       have HB := n3_
       clear n0_ n1_ n2_ n3_
       have p265 : 0 ≤ (x8_1 : Int) := of_decide_eq_true (by first | (with_reducible assumption) | assumption)
       have q265 : x8_1 < (l1.length : Int) := of_decide_eq_true (by first | (with_reducible assumption) | assumption)
       obtain ⟨ad265, e265, hx265_0, hx265_1, hx265_2, hx265_3⟩ := at_T31 HR1.out x8_1 p265 q265
       have hw265_3 := hx265_3
       have hw265_2 := hx265_2
       have hw265_1 := hx265_1
       have hw265_0 := hx265_0
       cases e265
       replace hx265_0 := (HB.out.cell (World.block_lt_of_cell? w _ hx265_0)).trans hx265_0
       replace hx265_1 := (HB.out.cell (World.block_lt_of_cell? w _ hx265_1)).trans hx265_1
       replace hx265_2 := (HB.out.cell (World.block_lt_of_cell? w _ hx265_2)).trans hx265_2
       replace hx265_3 := (HB.out.cell (World.block_lt_of_cell? w _ hx265_3)).trans hx265_3
       replace p265 := eq_true p265
       replace q265 := eq_true q265
       refine start_ (n := 7) (S := fun w' => w'.cell? ⟨gb258, 0, none⟩ = some (.int .i64 a0_0) ∧ w'.cell? ⟨gb258, 1, none⟩ = some (.int .i64 a0_1) ∧ w'.cell? (ad265.add ((x8_1).toNat * 4)) = some (.int .i64 ((rd_T31 l1 x8_1).f0)) ∧ w'.cell? ⟨(ad265.add ((x8_1).toNat * 4)).block, (ad265.add ((x8_1).toNat * 4)).off + 1, none⟩ = some (.bool ((rd_T31 l1 x8_1).f1)) ∧ w'.cell? ⟨(ad265.add ((x8_1).toNat * 4)).block, (ad265.add ((x8_1).toNat * 4)).off + 2, none⟩ = some (.string ((rd_T31 l1 x8_1).f2)) ∧ w'.cell? ⟨(ad265.add ((x8_1).toNat * 4)).block, (ad265.add ((x8_1).toNat * 4)).off + 3, none⟩ = some (.string ((rd_T31 l1 x8_1).f3))) (ds := []) #[false, false, false, false, false, false, false] (by kernel_rfl) rfl rfl ⟨(blk_cell BK258.out 0).trans rfl, (blk_cell BK258.out 1).trans rfl, ((HB.out.cell (World.block_lt_of_cell? w _ hw265_0)).trans hw265_0), ((HB.out.cell (World.block_lt_of_cell? w _ hw265_1)).trans hw265_1), ((HB.out.cell (World.block_lt_of_cell? w _ hw265_2)).trans hw265_2), ((HB.out.cell (World.block_lt_of_cell? w _ hw265_3)).trans hw265_3)⟩ (fun hHeld => ?_)
       generalize wr.drew = w50 at HO_6 BK258 BK259 HB hx265_0 hx265_1 hx265_2 hx265_3 hHeld ⊢
       refine pure_ (i := 1) (N := some 24) (v := ?_) (a' := ?_) #[false, true, false, false, false, false, false] rfl rfl (by kernel_rfl) (fun _ _ _ h => h) (Or.inl ⟨by rfl, ?_⟩) ?_ ?_
       rotate_left
       ·intro w'
        go_simp
        with_reducible rfl
       rotate_left
       ·simp only [Act.put, List.setIfInBounds_toArray, List.set_cons_zero, List.set_cons_succ, i64_w, i32_w]
        rfl
       refine pure_ (i := 2) (N := some 25) (v := ?_) (a' := ?_) #[false, true, true, false, false, false, false] rfl rfl (by kernel_rfl) (fun _ _ _ h => h) (Or.inl ⟨by rfl, ?_⟩) ?_ ?_
       rotate_left
       ·intro w'
        go_simp
        with_reducible rfl
       rotate_left
       ·simp only [Act.put, List.setIfInBounds_toArray, List.set_cons_zero, List.set_cons_succ, i64_w, i32_w]
        rfl
       refine pure_ (i := 3) (N := some 26) (v := ?_) (a' := ?_) #[false, true, true, true, false, false, false] rfl rfl (by kernel_rfl) (fun _ _ _ h => h) (Or.inl ⟨by rfl, ?_⟩) ?_ ?_
       rotate_left
       ·intro w'
        go_simp
        with_reducible rfl
       rotate_left
       ·simp only [Act.put, List.setIfInBounds_toArray, List.set_cons_zero, List.set_cons_succ, i64_w, i32_w]
        rfl
       refine take_ (i := 0) (N := some 23) (v := ?_) (a' := ?_) #[true, true, true, true, false, false, false] rfl rfl (by kernel_rfl) (fun _ _ _ h => h) (Or.inl ⟨by rfl, ?_⟩) hHeld ?_ ?_
       rotate_left
       ·rintro w' ⟨s0, s1, s2, s3, s4, s5⟩
        go_simp
        with_reducible rfl
       rotate_left
       ·simp only [Act.put, List.setIfInBounds_toArray, List.set_cons_zero, List.set_cons_succ, i64_w, i32_w]
        rfl
       refine take_ (i := 4) (N := some 27) (v := ?_) (a' := ?_) #[true, true, true, true, true, false, false] rfl rfl (by kernel_rfl) (fun _ _ _ h => h) (Or.inl ⟨by rfl, ?_⟩) hHeld ?_ ?_
       rotate_left
       ·rintro w' ⟨s0, s1, s2, s3, s4, s5⟩
        go_simp
        with_reducible rfl
       rotate_left
       ·simp only [Act.put, List.setIfInBounds_toArray, List.set_cons_zero, List.set_cons_succ, i64_w, i32_w]
        rfl
       refine one_ (i := 5) (N := some 28) #[true, true, true, true, true, true, false] rfl rfl (by kernel_rfl) (by decide) (fun K hK => ?_)
       refine goes_ Try.func17 (by kernel_rfl) rfl #[.agg #[.int .i64 a0_0, .int .i64 a0_1], .agg #[.int .i64 ((rd_T31 l1 x8_1).f0), .bool ((rd_T31 l1 x8_1).f1), .string ((rd_T31 l1 x8_1).f2), .string ((rd_T31 l1 x8_1).f3)]] (by rfl) rfl rfl (by (try simp only [List.map_toArray, List.map_cons, List.map_nil]); first | done | rfl | (simp only [List.length_drop, List.length_take]; rfl)) ?_
       with_reducible refine (marquetryref22_Check.calls k1 a0_0 a0_1 ((rd_T31 l1 x8_1).f0) ((rd_T31 l1 x8_1).f1) ((rd_T31 l1 x8_1).f2) ((rd_T31 l1 x8_1).f3) t266 _ A12.out).mono ?_
       rintro e w51 ⟨rfl, hb⟩
       refine ⟨_, rfl, ?_⟩
       have n0_ := Aside0.mk (Kd.R_below (by (with_reducible repeat (first | apply Kd.R_alloc | apply Kd.R_drewN | apply Kd.R_drew)); exact HO_6.out) hb)
       have n1_ := Aside0.mk (blk_below (g := gb258) (o := .cells #[.int .i64 a0_0, .int .i64 a0_1] 24 (0, 0)) (by (with_reducible repeat (first | refine blk_drewN ?_ _ | refine blk_drew ?_ | refine blk_alloc ?_ _)); exact BK258.out) hb)
       have n2_ := Aside0.mk (blk_below (g := gb259) (o := .cells #[.int .i64 x260000_1, .bool x260001_1, .string x260002_1, .string x260003_1] 31 (0, 0)) (by (with_reducible repeat (first | refine blk_drewN ?_ _ | refine blk_drew ?_ | refine blk_alloc ?_ _)); exact BK259.out) hb)
       have n3_ := Aside0.mk (below_step (by repeat (first | (with_reducible first | exact HB.out | apply below_alloc | apply pw_below_drewN | apply below_drew1 | refine below_set ?_ GE258.out | refine below_set ?_ GE259.out) | exact HB.out)) hb)
       clear HO_6
       clear BK258
       clear BK259
       clear HB
       have HO_6 := n0_
       have BK258 := n1_
       have BK259 := n2_
       have HB := n3_
       clear n0_ n1_ n2_ n3_
       (try clear hb)
       (try clear hb2)
       (try clear hk)
       (try clear hi)
       refine hK.out _ _ ⟨(blk_cell BK258.out 0).trans rfl, (blk_cell BK258.out 1).trans rfl, ((HB.out.cell (World.block_lt_of_cell? w _ hw265_0)).trans hw265_0), ((HB.out.cell (World.block_lt_of_cell? w _ hw265_1)).trans hw265_1), ((HB.out.cell (World.block_lt_of_cell? w _ hw265_2)).trans hw265_2), ((HB.out.cell (World.block_lt_of_cell? w _ hw265_3)).trans hw265_3)⟩ (fun hHeld => ?_)
       clear hK K
       refine norm_ (a' := ?_) ?_ ?_
       rotate_left
       ·show Act.put _ (some 28) _ = _
        simp only [Act.put, List.setIfInBounds_toArray, List.set_cons_zero, List.set_cons_succ, i64_w, i32_w]
        rfl
       refine pure_ (i := 6) (N := some 29) (v := ?_) (a' := ?_) #[true, true, true, true, true, true, true] rfl rfl (by kernel_rfl) (fun _ _ _ h => h) (Or.inl ⟨by rfl, ?_⟩) ?_ ?_
       rotate_left
       ·intro w'
        go_simp
        with_reducible rfl
       rotate_left
       ·simp only [Act.put, List.setIfInBounds_toArray, List.set_cons_zero, List.set_cons_succ, i64_w, i32_w]
        rfl
       refine done_ (by kernel_rfl) ?_
       have hnb52 := NB259_258.out
       have hnc52 := NB258_259.out
       have hcz53_0 : w51.cell? ⟨gb259, 0, none⟩ = some (.int .i64 x260000_1) := (blk_cell BK259.out 0).trans rfl
       have hcz53_1 : w51.cell? ⟨gb259, 1, none⟩ = some (.bool x260001_1) := (blk_cell BK259.out 1).trans rfl
       have hcz53_2 : w51.cell? ⟨gb259, 2, none⟩ = some (.string x260002_1) := (blk_cell BK259.out 2).trans rfl
       have hcz53_3 : w51.cell? ⟨gb259, 3, none⟩ = some (.string x260003_1) := (blk_cell BK259.out 3).trans rfl
       have hfz53_0 := blk_frozen BK259.out 0
       have hfz53_1 := blk_frozen BK259.out 1
       have hfz53_2 := blk_frozen BK259.out 2
       have hfz53_3 := blk_frozen BK259.out 3
       try go_wp2
       refine bodyPost_ret (results_ct rfl _ _ gb259 31 #[.int .i64 0, .bool false, .string (⟨#[]⟩ : ByteArray), .string (⟨#[]⟩ : ByteArray)] (0, 0) _ rfl (by (with_reducible repeat (first | refine blk_drewN ?_ _ | refine blk_drew ?_ | refine blk_alloc ?_ _)); refine blk_put (cs := #[.int .i64 0, .bool false, .string (⟨#[]⟩ : ByteArray), .string x260003_1]) ?_ 3 _ rfl; (with_reducible repeat (first | refine blk_drewN ?_ _ | refine blk_drew ?_ | refine blk_alloc ?_ _)); refine blk_put (cs := #[.int .i64 0, .bool false, .string x260002_1, .string x260003_1]) ?_ 2 _ rfl; (with_reducible repeat (first | refine blk_drewN ?_ _ | refine blk_drew ?_ | refine blk_alloc ?_ _)); refine blk_put (cs := #[.int .i64 0, .bool x260001_1, .string x260002_1, .string x260003_1]) ?_ 1 _ rfl; (with_reducible repeat (first | refine blk_drewN ?_ _ | refine blk_drew ?_ | refine blk_alloc ?_ _)); refine blk_put (cs := #[.int .i64 x260000_1, .bool x260001_1, .string x260002_1, .string x260003_1]) ?_ 0 _ rfl; (with_reducible repeat (first | refine blk_drewN ?_ _ | refine blk_drew ?_ | refine blk_alloc ?_ _)); exact BK259.out) Try.underlying31 rfl (by kernel_rfl)) rfl ?_
       exact ⟨by first | rfl | (simp [errW_none, errW_some] <;> rfl) | (simp [*, errW_none, errW_some] <;> rfl), by repeat (first | (with_reducible first | exact HB.out | apply below_alloc | apply pw_below_drewN | apply below_drew1 | refine below_set ?_ GE258.out | refine below_set ?_ GE259.out) | exact HB.out)⟩
     ·rw [if_neg c11] at H
      exact absurd H (by simp)
    ·rw [if_neg c10] at H
     have c10b0 : decide (x8_1 < (l1.length : Int)) = false := decide_eq_false c10
     clear c10
     by_cases c54 : x7_1 > 65536
     ·rw [if_pos c54] at H
      have c54b0 : decide (65536 < x7_1) = true := decide_eq_true c54
      clear c54
      simp only [Option.some.injEq, Prod.mk.injEq] at H
      obtain ⟨rfl, rfl, rfl, rfl, rfl⟩ := H
      have hnb55 := NB259_258.out
      have hnc55 := NB258_259.out
      have hcz56_0 : wr.cell? ⟨gb259, 0, none⟩ = some (.int .i64 x260000_1) := (blk_cell BK259.out 0).trans rfl
      have hcz56_1 : wr.cell? ⟨gb259, 1, none⟩ = some (.bool x260001_1) := (blk_cell BK259.out 1).trans rfl
      have hcz56_2 : wr.cell? ⟨gb259, 2, none⟩ = some (.string x260002_1) := (blk_cell BK259.out 2).trans rfl
      have hcz56_3 : wr.cell? ⟨gb259, 3, none⟩ = some (.string x260003_1) := (blk_cell BK259.out 3).trans rfl
      have hfz56_0 := blk_frozen BK259.out 0
      have hfz56_1 := blk_frozen BK259.out 1
      have hfz56_2 := blk_frozen BK259.out 2
      have hfz56_3 := blk_frozen BK259.out 3
      go_wp2
      refine bodyPost_ret (results_ct rfl _ _ gb259 31 #[.int .i64 0, .bool false, .string (⟨#[]⟩ : ByteArray), .string (⟨#[]⟩ : ByteArray)] (0, 0) _ rfl (by (with_reducible repeat (first | refine blk_drewN ?_ _ | refine blk_drew ?_ | refine blk_alloc ?_ _)); refine blk_put (cs := #[.int .i64 0, .bool false, .string (⟨#[]⟩ : ByteArray), .string x260003_1]) ?_ 3 _ rfl; (with_reducible repeat (first | refine blk_drewN ?_ _ | refine blk_drew ?_ | refine blk_alloc ?_ _)); refine blk_put (cs := #[.int .i64 0, .bool false, .string x260002_1, .string x260003_1]) ?_ 2 _ rfl; (with_reducible repeat (first | refine blk_drewN ?_ _ | refine blk_drew ?_ | refine blk_alloc ?_ _)); refine blk_put (cs := #[.int .i64 0, .bool x260001_1, .string x260002_1, .string x260003_1]) ?_ 1 _ rfl; (with_reducible repeat (first | refine blk_drewN ?_ _ | refine blk_drew ?_ | refine blk_alloc ?_ _)); refine blk_put (cs := #[.int .i64 x260000_1, .bool x260001_1, .string x260002_1, .string x260003_1]) ?_ 0 _ rfl; (with_reducible repeat (first | refine blk_drewN ?_ _ | refine blk_drew ?_ | refine blk_alloc ?_ _)); exact BK259.out) Try.underlying31 rfl (by kernel_rfl)) rfl ?_
      exact ⟨by first | rfl | (simp [errW_none, errW_some] <;> rfl) | (simp [*, errW_none, errW_some] <;> rfl), by repeat (first | (with_reducible first | exact HB.out | apply below_alloc | apply pw_below_drewN | apply below_drew1 | refine below_set ?_ GE258.out | refine below_set ?_ GE259.out) | exact HB.out)⟩
     ·rw [if_neg c54] at H
      have c54b0 : decide (65536 < x7_1) = false := decide_eq_false c54
      clear c54
      replace H := Option.bind_eq_some_iff.mp H
      obtain ⟨⟨t261, t262, t263, t264⟩, A570, H⟩ := H
      replace H : (some (t261, t262, t263, t264, 0)) = some (r1, r2, r3, r4, r5) := H
      have A57 := Aside0.mk A570
      clear A570
      simp only [Option.some.injEq, Prod.mk.injEq] at H
      obtain ⟨rfl, rfl, rfl, rfl, rfl⟩ := H
      have hnb58 := NB258_259.out
      have hnc58 := NB259_258.out
      have hcz59_0 : wr.cell? ⟨gb258, 0, none⟩ = some (.int .i64 a0_0) := (blk_cell BK258.out 0).trans rfl
      have hcz59_1 : wr.cell? ⟨gb258, 1, none⟩ = some (.int .i64 a0_1) := (blk_cell BK258.out 1).trans rfl
      have hfz59_0 := blk_frozen BK258.out 0
      have hfz59_1 := blk_frozen BK258.out 1
      obtain ⟨Ao60, co60, eo60⟩ := Kd.R_slice HO_6.out
      subst eo60
      go_wp2_with (first | ((with_reducible refine gate_callee (f := 13) rfl ?_); refine goesL_ (some 75) rfl rfl Try.func13 (by kernel_rfl) rfl #[.agg #[.int .i64 a0_0, .int .i64 a0_1], .slice Ao60 x6_1.length co60, .int .i64 x7_1] rfl (by (try simp only [List.map_toArray, List.map_cons, List.map_nil]); first | done | rfl | (simp only [List.length_drop, List.length_take]; rfl)) ?_; (with_reducible refine (marquetryref22_Of.calls k1 a0_0 a0_1 _ _ x6_1 x7_1 t261 t262 t263 t264 _ ?side1 ?side2 A57.out).mono ?_); (case side1 => repeat (first | exact (Kd.R_reads' HO_6.out).2.2 | (with_reducible refine Kd.C_alloc ?_ _) | (with_reducible refine Kd.C_drewN ?_ _) | (with_reducible refine Kd.C_drew ?_))); (case side2 => exact (Kd.R_reads' HO_6.out).2.1); rintro e w61 ⟨rfl, hb⟩; refine ⟨_, rfl, ?_⟩; have n0_ := Aside0.mk (Kd.R_below (by (with_reducible repeat (first | apply Kd.R_alloc | apply Kd.R_drewN | apply Kd.R_drew)); exact HO_6.out) hb); have n1_ := Aside0.mk (blk_below (g := gb258) (o := .cells #[.int .i64 a0_0, .int .i64 a0_1] 24 (0, 0)) (by (with_reducible repeat (first | refine blk_drewN ?_ _ | refine blk_drew ?_ | refine blk_alloc ?_ _)); exact BK258.out) hb); have n2_ := Aside0.mk (blk_below (g := gb259) (o := .cells #[.int .i64 x260000_1, .bool x260001_1, .string x260002_1, .string x260003_1] 31 (0, 0)) (by (with_reducible repeat (first | refine blk_drewN ?_ _ | refine blk_drew ?_ | refine blk_alloc ?_ _)); exact BK259.out) hb); have n3_ := Aside0.mk (below_step (by repeat (first | (with_reducible first | exact HB.out | apply below_alloc | apply pw_below_drewN | apply below_drew1 | refine below_set ?_ GE258.out | refine below_set ?_ GE259.out) | exact HB.out)) hb); clear HO_6; clear BK258; clear BK259; clear HB; have HO_6 := n0_; have BK258 := n1_; have BK259 := n2_; have HB := n3_; clear n0_ n1_ n2_ n3_; (try clear hb); (try clear hb2); (try clear hk); (try clear hi); have hcz62_0 : w61.cell? ⟨gb259, 0, none⟩ = some (.int .i64 x260000_1) := (blk_cell BK259.out 0).trans rfl; have hcz62_1 : w61.cell? ⟨gb259, 1, none⟩ = some (.bool x260001_1) := (blk_cell BK259.out 1).trans rfl; have hcz62_2 : w61.cell? ⟨gb259, 2, none⟩ = some (.string x260002_1) := (blk_cell BK259.out 2).trans rfl; have hcz62_3 : w61.cell? ⟨gb259, 3, none⟩ = some (.string x260003_1) := (blk_cell BK259.out 3).trans rfl; have hfz62_0 := blk_frozen BK259.out 0; have hfz62_1 := blk_frozen BK259.out 1; have hfz62_2 := blk_frozen BK259.out 2; have hfz62_3 := blk_frozen BK259.out 3))
      refine bodyPost_ret (results_ct rfl _ _ gb259 31 #[.int .i64 t261, .bool t262, .string t263, .string t264] (0, 0) _ rfl (by (with_reducible repeat (first | refine blk_drewN ?_ _ | refine blk_drew ?_ | refine blk_alloc ?_ _)); refine blk_put (cs := #[.int .i64 t261, .bool t262, .string t263, .string x260003_1]) ?_ 3 _ rfl; (with_reducible repeat (first | refine blk_drewN ?_ _ | refine blk_drew ?_ | refine blk_alloc ?_ _)); refine blk_put (cs := #[.int .i64 t261, .bool t262, .string x260002_1, .string x260003_1]) ?_ 2 _ rfl; (with_reducible repeat (first | refine blk_drewN ?_ _ | refine blk_drew ?_ | refine blk_alloc ?_ _)); refine blk_put (cs := #[.int .i64 t261, .bool x260001_1, .string x260002_1, .string x260003_1]) ?_ 1 _ rfl; (with_reducible repeat (first | refine blk_drewN ?_ _ | refine blk_drew ?_ | refine blk_alloc ?_ _)); refine blk_put (cs := #[.int .i64 x260000_1, .bool x260001_1, .string x260002_1, .string x260003_1]) ?_ 0 _ rfl; (with_reducible repeat (first | refine blk_drewN ?_ _ | refine blk_drew ?_ | refine blk_alloc ?_ _)); exact BK259.out) Try.underlying31 rfl (by kernel_rfl)) rfl ?_
      exact ⟨by first | rfl | (simp [errW_none, errW_some] <;> rfl) | (simp [*, errW_none, errW_some] <;> rfl), by repeat (first | (with_reducible first | exact HB.out | apply below_alloc | apply pw_below_drewN | apply below_drew1 | refine below_set ?_ GE258.out | refine below_set ?_ GE259.out) | exact HB.out)⟩
 ·replace c4 := Bool.eq_false_iff.mpr c4
  subst c4
  have H1 : (some (0, false, (⟨#[]⟩ : ByteArray), (⟨#[]⟩ : ByteArray), 2)) = some (r1, r2, r3, r4, r5) := by rw [if_neg (show ¬ (false = true) by decide)] at H; exact H
  clear H
  have H := H1
  clear H1
  simp only [Option.some.injEq, Prod.mk.injEq] at H
  obtain ⟨rfl, rfl, rfl, rfl, rfl⟩ := H
  go_enter Try.func28, Try.ntmps28
  go_wp2_with (first | ((with_reducible refine gate_dst (N := 2) rfl ?_); refine box_event ?hg (N := 2) ?hd (cs := #[.int .i64 a0_0, .int .i64 a0_1]) (t := 24) ?hr ?_; (case hd => rfl); (case hg => rfl); (case hr => first | (go_simp; done) | (go_simp; rfl)); intro gb258 hg w63 hbox hb; have n0_ := Aside0.mk (below_step (by repeat (first | (with_reducible first | exact HB.out | apply below_alloc | apply pw_below_drewN | apply below_drew1) | exact HB.out)) hb); have n1_ := Aside0.mk (hbox); have n2_ := Aside0.mk ((by rw [hg]; exact (below_size (by repeat (first | (with_reducible first | exact HB.out | apply below_alloc | apply pw_below_drewN | apply below_drew1) | exact HB.out))) : w.heap.size ≤ gb258)); have n3_ := Aside0.mk ((by rw [hg]; exact (below_size (by repeat (first | (with_reducible first | exact HB.out | apply below_alloc | apply pw_below_drewN | apply below_drew1) | exact HB.out))) : w.heap.size ≤ gb258)); clear HB; have HB := n0_; have BK258 := n1_; have GW258 := n2_; have GE258 := n3_; clear n0_ n1_ n2_ n3_; clear hb hbox hg) | ((with_reducible refine gate_dst (N := 4) rfl ?_); refine box_event ?hg (N := 4) ?hd (cs := #[.int .i64 0, .bool false, .string (⟨#[]⟩ : ByteArray), .string (⟨#[]⟩ : ByteArray)]) (t := 31) ?hr ?_; (case hd => rfl); (case hg => rfl); (case hr => first | (go_simp; done) | (go_simp; rfl)); intro gb259 hg w64 hbox hb; have n0_ := Aside0.mk (blk_below (g := gb258) (o := .cells #[.int .i64 a0_0, .int .i64 a0_1] 24 (0, 0)) (by (with_reducible repeat (first | refine blk_drewN ?_ _ | refine blk_drew ?_ | refine blk_alloc ?_ _)); exact BK258.out) hb); have n1_ := Aside0.mk (below_step (by repeat (first | (with_reducible first | exact HB.out | apply below_alloc | apply pw_below_drewN | apply below_drew1 | refine below_set ?_ GE258.out) | exact HB.out)) hb); have n2_ := Aside0.mk (hbox); have n3_ := Aside0.mk ((by rw [hg]; exact (below_size (by repeat (first | (with_reducible first | exact HB.out | apply below_alloc | apply pw_below_drewN | apply below_drew1 | refine below_set ?_ GE258.out) | exact HB.out))) : w.heap.size ≤ gb259)); have n4_ := Aside0.mk ((by rw [hg]; exact (below_size (by repeat (first | (with_reducible first | exact HB.out | apply below_alloc | apply pw_below_drewN | apply below_drew1 | refine below_set ?_ GE258.out) | exact HB.out))) : w.heap.size ≤ gb259)); have n5_ := Aside0.mk ((by rw [hg]; exact Nat.ne_of_lt (blk_lt (g := gb258) (o := .cells #[.int .i64 a0_0, .int .i64 a0_1] 24 (0, 0)) (by (with_reducible repeat (first | refine blk_drewN ?_ _ | refine blk_drew ?_ | refine blk_alloc ?_ _)); exact BK258.out)) : gb258 ≠ gb259)); have n6_ := Aside0.mk ((by rw [hg]; exact Nat.ne_of_gt (blk_lt (g := gb258) (o := .cells #[.int .i64 a0_0, .int .i64 a0_1] 24 (0, 0)) (by (with_reducible repeat (first | refine blk_drewN ?_ _ | refine blk_drew ?_ | refine blk_alloc ?_ _)); exact BK258.out)) : gb259 ≠ gb258)); clear BK258; clear HB; have BK258 := n0_; have HB := n1_; have BK259 := n2_; have GW259 := n3_; have GE259 := n4_; have NB258_259 := n5_; have NB259_258 := n6_; clear n0_ n1_ n2_ n3_ n4_ n5_ n6_; clear hb hbox hg; have hnb65 := NB258_259.out; have hnc65 := NB259_258.out; have hcz66_0 : w64.cell? ⟨gb258, 0, none⟩ = some (.int .i64 a0_0) := (blk_cell BK258.out 0).trans rfl; have hcz66_1 : w64.cell? ⟨gb258, 1, none⟩ = some (.int .i64 a0_1) := (blk_cell BK258.out 1).trans rfl; have hfz66_0 := blk_frozen BK258.out 0; have hfz66_1 := blk_frozen BK258.out 1) | ((with_reducible refine gate_callee (f := 40) rfl ?_); refine goesL_ (some 14) rfl rfl Try.func40 (by kernel_rfl) rfl #[.agg #[.int .i64 a0_0, .int .i64 a0_1]] rfl (by (try simp only [List.map_toArray, List.map_cons, List.map_nil]); first | done | rfl | (simp only [List.length_drop, List.length_take]; rfl)) ?_; (with_reducible refine (marquetryref09_Check.calls k a0_0 a0_1 false _ A3.out).mono ?_); rintro e w67 ⟨rfl, hb⟩; refine ⟨_, rfl, ?_⟩; have n0_ := Aside0.mk (blk_below (g := gb258) (o := .cells #[.int .i64 a0_0, .int .i64 a0_1] 24 (0, 0)) (by (with_reducible repeat (first | refine blk_drewN ?_ _ | refine blk_drew ?_ | refine blk_alloc ?_ _)); exact BK258.out) hb); have n1_ := Aside0.mk (blk_below (g := gb259) (o := .cells #[.int .i64 0, .bool false, .string (⟨#[]⟩ : ByteArray), .string (⟨#[]⟩ : ByteArray)] 31 (0, 0)) (by (with_reducible repeat (first | refine blk_drewN ?_ _ | refine blk_drew ?_ | refine blk_alloc ?_ _)); exact BK259.out) hb); have n2_ := Aside0.mk (below_step (by repeat (first | (with_reducible first | exact HB.out | apply below_alloc | apply pw_below_drewN | apply below_drew1 | refine below_set ?_ GE258.out | refine below_set ?_ GE259.out) | exact HB.out)) hb); clear BK258; clear BK259; clear HB; have BK258 := n0_; have BK259 := n1_; have HB := n2_; clear n0_ n1_ n2_; (try clear hb); (try clear hb2); (try clear hk); (try clear hi); have hcz68_0 : w67.cell? ⟨gb259, 0, none⟩ = some (.int .i64 0) := (blk_cell BK259.out 0).trans rfl; have hcz68_1 : w67.cell? ⟨gb259, 1, none⟩ = some (.bool false) := (blk_cell BK259.out 1).trans rfl; have hcz68_2 : w67.cell? ⟨gb259, 2, none⟩ = some (.string (⟨#[]⟩ : ByteArray)) := (blk_cell BK259.out 2).trans rfl; have hcz68_3 : w67.cell? ⟨gb259, 3, none⟩ = some (.string (⟨#[]⟩ : ByteArray)) := (blk_cell BK259.out 3).trans rfl; have hfz68_0 := blk_frozen BK259.out 0; have hfz68_1 := blk_frozen BK259.out 1; have hfz68_2 := blk_frozen BK259.out 2; have hfz68_3 := blk_frozen BK259.out 3))
  refine bodyPost_ret (results_ct rfl _ _ gb259 31 #[.int .i64 0, .bool false, .string (⟨#[]⟩ : ByteArray), .string (⟨#[]⟩ : ByteArray)] (0, 0) _ rfl (by (with_reducible repeat (first | refine blk_drewN ?_ _ | refine blk_drew ?_ | refine blk_alloc ?_ _)); refine blk_put (cs := #[.int .i64 0, .bool false, .string (⟨#[]⟩ : ByteArray), .string (⟨#[]⟩ : ByteArray)]) ?_ 3 _ rfl; (with_reducible repeat (first | refine blk_drewN ?_ _ | refine blk_drew ?_ | refine blk_alloc ?_ _)); refine blk_put (cs := #[.int .i64 0, .bool false, .string (⟨#[]⟩ : ByteArray), .string (⟨#[]⟩ : ByteArray)]) ?_ 2 _ rfl; (with_reducible repeat (first | refine blk_drewN ?_ _ | refine blk_drew ?_ | refine blk_alloc ?_ _)); refine blk_put (cs := #[.int .i64 0, .bool false, .string (⟨#[]⟩ : ByteArray), .string (⟨#[]⟩ : ByteArray)]) ?_ 1 _ rfl; (with_reducible repeat (first | refine blk_drewN ?_ _ | refine blk_drew ?_ | refine blk_alloc ?_ _)); refine blk_put (cs := #[.int .i64 0, .bool false, .string (⟨#[]⟩ : ByteArray), .string (⟨#[]⟩ : ByteArray)]) ?_ 0 _ rfl; (with_reducible repeat (first | refine blk_drewN ?_ _ | refine blk_drew ?_ | refine blk_alloc ?_ _)); exact BK259.out) Try.underlying31 rfl (by kernel_rfl)) rfl ?_
  exact ⟨by first | rfl | (simp [errW_none, errW_some] <;> rfl) | (simp [*, errW_none, errW_some] <;> rfl), by repeat (first | (with_reducible first | exact HB.out | apply below_alloc | apply pw_below_drewN | apply below_drew1 | refine below_set ?_ GE258.out | refine below_set ?_ GE259.out) | exact HB.out)⟩

end Go.Proofs.Ytncehlbhjoejhaa.H
end
