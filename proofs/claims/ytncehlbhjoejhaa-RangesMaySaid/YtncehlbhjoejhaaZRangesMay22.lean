/- Texts of the claim, packed: H52. -/
import Derived.BigRegion
import Derived.Deep.Cut
import Derived.Deep.RegionHeld3
import Derived.Deep.RegionWith
import Derived.Lib.Hide
import Derived.Test.YtncehlbhjoejhaaZRangesMay4
import Derived.Test.YtncehlbhjoejhaaZRangesMay17
import Derived.Test.YtncehlbhjoejhaaZRangesMay20
import Derived.Test.YtncehlbhjoejhaaZRangesMay21
section
-- Laid by this session's hprint.py, out of the kit's print.py and texts of the session. Not trusted: Lean checks it.
namespace Go.Proofs.Ytncehlbhjoejhaa.H
open Go.RowKit Go.Proofs.YtncehlbhjoejhaaW.PrintWords Go.Proofs.YtncehlbhjoejhaaW.PrintLast Go.Proofs.YtncehlbhjoejhaaW.PrintMore
attribute [local go_sem] max2_int min2_int max_two min_two max_three min_three max_four min_four   -- for this text's walks alone
set_option linter.unusedVariables false
set_option linter.unusedSimpArgs false

-- OVPART Derived.Lib.Hide Derived.Deep.RegionHeld3 Derived.BigRegion Derived.Deep.RegionWith Derived.Deep.Cut
/-! ### marquetryref22_Check: function 17 -/
def marquetryref22_Check.g (k : Nat) (ak ai : Int) (at_ : ByteArray) (bk bi : Int) (bt_ : ByteArray) : Option Int :=
  (marquetryref22_zero.f k ak ai at_ true).bind fun x => if (!(x.1 == ak) || (!(x.2.1 == ai) || (!(x.2.2.toList == at_.toList)))) = true then some 320 else
    (marquetryref22_zero.f k bk bi bt_ false).bind fun y => if (!(y.1 == bk) || (!(y.2.1 == bi) || (!(y.2.2.toList == bt_.toList)))) = true then some 320 else some 0
def marquetryref22_Check.e (k : Nat) (t0 t1 : Int) (least most : ByteArray) : Option Int :=
  (marquetryref22_Read.f k t0 t1 least).bind fun a => (marquetryref22_Read.f k t0 t1 most).bind fun b => (marquetryref09_Compare.f k a.1 a.2.1 a.2.2.1 b.1 b.2.1 b.2.2.1).bind fun c =>
    if a.2.2.2 ≠ 0 then some 320 else if b.2.2.2 ≠ 0 then some 320 else if c.2 = false then some 320 else if c.1 > 0 then some 320 else marquetryref22_Check.g k a.1 a.2.1 a.2.2.1 b.1 b.2.1 b.2.2.1
def marquetryref22_Check.f (k : Nat) (t0 t1 n : Int) (has : Bool) (least most : ByteArray) : Option Int :=
  (marquetryref09_Check.f k t0 t1).bind fun ok => if ok = false then some 2 else if n < 0 then some 320 else if n > 65536 then some 320
    else if has = false then (if least.toList = [] then (if most.toList = [] then some 0 else some 320) else some 320) else marquetryref22_Check.e k t0 t1 least most
theorem marquetryref22_Check.mono : ∀ a0 a1 a2 a3 a4 a5 k, LeO (marquetryref22_Check.f k a0 a1 a2 a3 a4 a5) (marquetryref22_Check.f (k + 1) a0 a1 a2 a3 a4 a5) := by
  intro a0 a1 a2 a3 a4 a5 k
  unfold marquetryref22_Check.f marquetryref22_Check.e marquetryref22_Check.g
  repeat' first
    | (with_reducible exact LeO.refl _)
    | (with_reducible exact marquetryref09_Check.mono _ _ _)
    | (with_reducible exact marquetryref22_Read.mono _ _ _ _)
    | (with_reducible exact marquetryref09_Compare.mono _ _ _ _ _ _ _)
    | (with_reducible exact marquetryref22_zero.mono _ _ _ _ _)
    | (with_reducible refine LeO.ite ?_ ?_)
    | (with_reducible refine LeO.bind ?_ (fun _ => ?_))
    | exact marquetryref09_Check.mono _ _ _
    | exact marquetryref22_Read.mono _ _ _ _
    | exact marquetryref09_Compare.mono _ _ _ _ _ _ _
    | exact marquetryref22_zero.mono _ _ _ _ _
    | refine LeO.ite ?_ ?_
    | refine LeO.bind ?_ (fun _ => ?_)
structure RkC (w W : World) (t0 t1 n : Int) (has : Bool) (least most : ByteArray) : Prop where
  b0 : W.heap[w.heap.size]? = some (.cells #[.int .i64 t0, .int .i64 t1] 24 (0, 0))
  b1 : W.heap[w.heap.size + 1]? = some (.cells #[.int .i64 n, .bool has, .string least, .string most] 31 (0, 0))
  below : Below w.heap.size w W
theorem RkC.next {w W W' : World} {t0 t1 n : Int} {has : Bool} {least most : ByteArray} (h : RkC w W t0 t1 n has least most) (hb : Below W.heap.size W W') : RkC w W' t0 t1 n has least most := ⟨blk_below h.b0 hb, blk_below h.b1 hb, below_step h.below hb⟩
theorem RkC.start (w : World) (t0 t1 n : Int) (has : Bool) (least most : ByteArray) : RkC w ((w.alloc (.cells #[.int .i64 t0, .int .i64 t1] 24)).alloc (.cells #[.int .i64 n, .bool has, .string least, .string most] 31)) t0 t1 n has least most := by
  refine ⟨blk_alloc (blk_new w _) _, ?_, below_alloc (below_alloc (Below.refl _ _) _) _⟩
  have h := blk_new (w.alloc (.cells #[.int .i64 t0, .int .i64 t1] 24)) (.cells #[.int .i64 n, .bool has, .string least, .string most] 31)
  rw [World.size_alloc] at h
  exact h
theorem RkC.cells {w W : World} {t0 t1 n : Int} {has : Bool} {least most : ByteArray} (h : RkC w W t0 t1 n has least most) : W.cell? ⟨w.heap.size, 0, none⟩ = some (.int .i64 t0) ∧ W.cell? ⟨w.heap.size, 1, none⟩ = some (.int .i64 t1) ∧
    W.cell? ⟨w.heap.size + 1, 0, none⟩ = some (.int .i64 n) ∧ W.cell? ⟨w.heap.size + 1, 1, none⟩ = some (.bool has) ∧ W.cell? ⟨w.heap.size + 1, 2, none⟩ = some (.string least) ∧ W.cell? ⟨w.heap.size + 1, 3, none⟩ = some (.string most) :=
  ⟨blk_cell h.b0 0, blk_cell h.b0 1, blk_cell h.b1 0, blk_cell h.b1 1, blk_cell h.b1 2, blk_cell h.b1 3⟩
theorem RkC.far {w W : World} {B : Nat} {t0 t1 n : Int} {has : Bool} {least most : ByteArray} (h : RkC w W t0 t1 n has least most) (hB : w.heap.size + 1 < B) (k : Nat) (v : Value) : RkC w (W.setCell ⟨B, k, none⟩ v) t0 t1 n has least most :=
  ⟨blk_far h.b0 (p := ⟨B, k, none⟩) (by show w.heap.size ≠ B; omega) v, blk_far h.b1 (p := ⟨B, k, none⟩) (by show w.heap.size + 1 ≠ B; omega) v, h.below.setCell (p := ⟨B, k, none⟩) (by show w.heap.size ≤ B; omega) v⟩
structure RkA (w W : World) (B : Nat) (t0 t1 n : Int) (has : Bool) (least most : ByteArray) (k i : Int) (t : ByteArray) : Prop where
  rc : RkC w W t0 t1 n has least most
  lt : w.heap.size + 1 < B
  ka : W.heap[B]? = some (.cells #[.int .i64 k, .int .i64 i, .string t] 29 (0, 0))
theorem RkA.next {w W W' : World} {t0 t1 n : Int} {has : Bool} {least most : ByteArray} {B : Nat} {k i : Int} {t : ByteArray} (h : RkA w W B t0 t1 n has least most k i t) (hb : Below W.heap.size W W') : RkA w W' B t0 t1 n has least most k i t := ⟨h.rc.next hb, h.lt, blk_below h.ka hb⟩
theorem RkA.start {w W : World} {t0 t1 n : Int} {has : Bool} {least most : ByteArray} (h : RkC w W t0 t1 n has least most) (k i : Int) (t : ByteArray) : RkA w (W.alloc (.cells #[.int .i64 k, .int .i64 i, .string t] 29)) W.heap.size t0 t1 n has least most k i t :=
  ⟨h.next (below_alloc (Below.refl _ _) _), blk_lt h.b1, blk_new W _⟩
theorem RkA.far {w W : World} {B B' : Nat} {t0 t1 n : Int} {has : Bool} {least most : ByteArray} {k i : Int} {t : ByteArray} (h : RkA w W B t0 t1 n has least most k i t) (hB : B < B') (j : Nat) (v : Value) : RkA w (W.setCell ⟨B', j, none⟩ v) B t0 t1 n has least most k i t :=
  ⟨h.rc.far (Nat.lt_trans h.lt hB) j v, h.lt, blk_far h.ka (p := ⟨B', j, none⟩) (by show B ≠ B'; omega) v⟩
structure RkB (w W : World) (B5 B7 : Nat) (t0 t1 n : Int) (has : Bool) (least most : ByteArray) (ak ai : Int) (at_ : ByteArray) (bk bi : Int) (bt_ : ByteArray) : Prop where
  ra : RkA w W B5 t0 t1 n has least most ak ai at_
  kb : W.heap[B7]? = some (.cells #[.int .i64 bk, .int .i64 bi, .string bt_] 29 (0, 0))
theorem RkB.next {w W W' : World} {t0 t1 n : Int} {has : Bool} {least most : ByteArray} {B5 B7 : Nat} {ak ai bk bi : Int} {at_ bt_ : ByteArray} (h : RkB w W B5 B7 t0 t1 n has least most ak ai at_ bk bi bt_) (hb : Below W.heap.size W W') : RkB w W' B5 B7 t0 t1 n has least most ak ai at_ bk bi bt_ := ⟨h.ra.next hb, blk_below h.kb hb⟩
theorem RkB.drew {w W : World} {t0 t1 n : Int} {has : Bool} {least most : ByteArray} {B5 B7 : Nat} {ak ai bk bi : Int} {at_ bt_ : ByteArray} (h : RkB w W B5 B7 t0 t1 n has least most ak ai at_ bk bi bt_) : RkB w W.drew B5 B7 t0 t1 n has least most ak ai at_ bk bi bt_ := ⟨⟨⟨h.ra.rc.b0, h.ra.rc.b1, h.ra.rc.below.drew⟩, h.ra.lt, h.ra.ka⟩, h.kb⟩
theorem RkB.start {w W : World} {t0 t1 n : Int} {has : Bool} {least most : ByteArray} {B5 : Nat} {ak ai : Int} {at_ : ByteArray} (h : RkA w W B5 t0 t1 n has least most ak ai at_) (k i : Int) (t : ByteArray) : RkB w (W.alloc (.cells #[.int .i64 k, .int .i64 i, .string t] 29)) B5 W.heap.size t0 t1 n has least most ak ai at_ k i t :=
  ⟨h.next (below_alloc (Below.refl _ _) _), blk_new W _⟩
theorem RkB.held {w W : World} {t0 t1 n : Int} {has : Bool} {least most : ByteArray} {B5 B7 : Nat} {ak ai bk bi : Int} {at_ bt_ : ByteArray} (h : RkB w W B5 B7 t0 t1 n has least most ak ai at_ bk bi bt_) :
    (W.cell? ⟨B5, 0, none⟩ = some (.int .i64 ak) ∧ W.cell? ⟨B5, 1, none⟩ = some (.int .i64 ai) ∧ W.cell? ⟨B5, 2, none⟩ = some (.string at_)) ∧ (W.cell? ⟨B7, 0, none⟩ = some (.int .i64 bk) ∧ W.cell? ⟨B7, 1, none⟩ = some (.int .i64 bi) ∧ W.cell? ⟨B7, 2, none⟩ = some (.string bt_)) :=
  ⟨⟨blk_cell h.ra.ka 0, blk_cell h.ra.ka 1, blk_cell h.ra.ka 2⟩, ⟨blk_cell h.kb 0, blk_cell h.kb 1, blk_cell h.kb 2⟩⟩
attribute [local go_sem high] eqA29
set_option maxHeartbeats 8000000 in
set_option maxRecDepth 100000 in
theorem marquetryref22_Check.calls (k : Nat) (a0_0 : Int) (a0_1 : Int) (a1_0 : Int) (a1_1 : Bool) (a1_2 : ByteArray) (a1_3 : ByteArray) (r : Int) (w : World) (h : marquetryref22_Check.f k a0_0 a0_1 a1_0 a1_1 a1_2 a1_3 = some r) :
    Calls Try.prog 17 #[.agg #[.int .i64 a0_0, .int .i64 a0_1], .agg #[.int .i64 a1_0, .bool a1_1, .string a1_2, .string a1_3]] w fun e w' => e = .returned (.int .i64 r) ∧ Below w.heap.size w w' := by
  unfold marquetryref22_Check.f at h
  obtain ⟨okc, hck, h1⟩ := Option.bind_eq_some_iff.mp h
  clear h
  have hS := RkC.start w a0_0 a0_1 a1_0 a1_1 a1_2 a1_3
  obtain ⟨W0, hW0⟩ : ∃ W0, W0 = (w.alloc (.cells #[.int .i64 a0_0, .int .i64 a0_1] 24)).alloc (.cells #[.int .i64 a1_0, .bool a1_1, .string a1_2, .string a1_3] 31) := ⟨_, rfl⟩
  rw [← hW0] at hS
  have HW0 := Lib.hid hW0
  have HCK := Lib.hid hck
  have H := Lib.hid h1
  clear hW0 hck h1
  go_enter Try.func17, Try.ntmps17
  go_wp2_with fail
  rw [← HW0.out]
  refine (marquetryref09_Check.calls k a0_0 a0_1 _ W0 HCK.out).mono ?_
  rintro e w1 ⟨rfl, hB1⟩
  have h1 := hS.next hB1
  obtain ⟨c00, c01, c10, c11, c12, c13⟩ := h1.cells
  clear hB1 hS HW0 HCK
  cases okc with
  | false =>
    have hr := H.out
    simp only [if_true, Option.some.injEq] at hr
    subst hr
    go_wp2_with fail
    go_ret
    exact ⟨rfl, h1.below⟩
  | true =>
    by_cases hn0 : a1_0 < 0
    · have hr := H.out
      rw [if_neg (by decide), if_pos hn0, Option.some.injEq] at hr
      subst hr
      have hnb := decide_eq_true hn0
      clear hn0
      go_wp2_with fail
      go_ret
      exact ⟨rfl, h1.below⟩
    by_cases hn6 : a1_0 > 65536
    · have hr := H.out
      rw [if_neg (by decide), if_neg hn0, if_pos hn6, Option.some.injEq] at hr
      subst hr
      have hnb := decide_eq_false hn0
      have hnc := decide_eq_true hn6
      clear hn0 hn6
      go_wp2_with fail
      go_ret
      exact ⟨rfl, h1.below⟩
    have hr := H.out
    rw [if_neg (by decide), if_neg hn0, if_neg hn6] at hr
    have HR := Lib.hid hr
    have hnb := decide_eq_false hn0
    have hnc := decide_eq_false hn6
    clear hn0 hn6 hr H
    cases a1_1 with
    | false =>
      have hr := HR.out
      rw [if_pos rfl] at hr
      by_cases hl : a1_2.toList = []
      · rw [if_pos hl] at hr
        by_cases hm : a1_3.toList = []
        · rw [if_pos hm, Option.some.injEq] at hr
          subst hr
          have hlb : (a1_2.toList != ([] : List UInt8)) = false := by simp [hl]
          have hl9 : a1_2.toList.isEmpty = true := by simp [hl]
          have hmb : (a1_3.toList != ([] : List UInt8)) = false := by simp [hm]
          have hm9 : a1_3.toList.isEmpty = true := by simp [hm]
          go_wp2_with fail
          go_ret
          exact ⟨rfl, h1.below⟩
        · rw [if_neg hm, Option.some.injEq] at hr
          subst hr
          have hlb : (a1_2.toList != ([] : List UInt8)) = false := by simp [hl]
          have hl9 : a1_2.toList.isEmpty = true := by simp [hl]
          have hmb : (a1_3.toList != ([] : List UInt8)) = true := by simp [hm]
          have hm9 : a1_3.toList.isEmpty = false := by simpa using hm
          go_wp2_with fail
          go_ret
          exact ⟨rfl, h1.below⟩
      · rw [if_neg hl, Option.some.injEq] at hr
        subst hr
        have hlb : (a1_2.toList != ([] : List UInt8)) = true := by simp [hl]
        have hl9 : a1_2.toList.isEmpty = false := by simpa using hl
        go_wp2_with fail
        go_ret
        exact ⟨rfl, h1.below⟩
    | true =>
      have hr := HR.out
      rw [if_neg (by decide)] at hr
      unfold marquetryref22_Check.e at hr
      obtain ⟨⟨ak, ai, at_, ae⟩, hra, hr1⟩ := Option.bind_eq_some_iff.mp hr
      clear hr
      obtain ⟨⟨bk, bi, bt_, be⟩, hrb, hr2⟩ := Option.bind_eq_some_iff.mp hr1
      clear hr1
      obtain ⟨⟨c, ok⟩, hrc, hr3⟩ := Option.bind_eq_some_iff.mp hr2
      clear hr2
      have HRA := Lib.hid hra
      have HRB := Lib.hid hrb
      have HRC := Lib.hid hrc
      have HE := Lib.hid hr3
      clear hra hrb hrc hr3 HR
      go_wp2_with fail
      refine (marquetryref22_Read.calls k a0_0 a0_1 a1_2 _ _ _ _ _ HRA.out).mono ?_
      rintro e w2 ⟨rfl, hB2⟩
      have h2 := h1.next hB2
      have hlt2 := blk_lt h2.b1
      clear c00 c01 c10 c11 c12 c13
      obtain ⟨c00, c01, c10, c11, c12, c13⟩ := h2.cells
      have h3 := RkA.start h2 ak ai at_
      clear hB2 h1
      go_upto_region 10 with (fail)
      generalize hWA : w2.alloc (.cells #[.int .i64 ak, .int .i64 ai, .string at_] 29) = WA at *
      generalize hB5 : w2.heap.size = B5 at *
      clear hWA c00 c01 c10 c11 c12 c13 hlt2 h2 hB5
      obtain ⟨c00, c01, c10, c11, c12, c13⟩ := h3.rc.cells
      go_wp2_with fail
      refine (marquetryref22_Read.calls k a0_0 a0_1 a1_3 _ _ _ _ _ HRB.out).mono ?_
      rintro e w3 ⟨rfl, hB3⟩
      have h4 := RkB.start (h3.next hB3) bk bi bt_
      have hlt3 := blk_lt (h3.next hB3).ka
      clear hB3 h3 c00 c01 c10 c11 c12 c13
      go_upto_region 11 with (fail)
      generalize hWB : w3.alloc (.cells #[.int .i64 bk, .int .i64 bi, .string bt_] 29) = WB at *
      generalize hB7 : w3.heap.size = B7 at *
      clear hWB hlt3 hB7
      obtain ⟨⟨d50, d51, d52⟩, ⟨d70, d71, d72⟩⟩ := h4.held
      go_wp2_with fail
      refine (marquetryref09_Compare.calls k _ _ _ _ _ _ c ok _ HRC.out).mono ?_
      rintro e w5 ⟨rfl, hB5'⟩
      have h5 := h4.next hB5'
      clear hB5' h4 d50 d51 d52 d70 d71 d72 HRA HRB HRC
      obtain ⟨⟨d50, d51, d52⟩, ⟨d70, d71, d72⟩⟩ := h5.held
      go_wp2_with fail
      by_cases hae : ae = 0
      case neg =>
        have hr := HE.out
        rw [if_pos hae, Option.some.injEq] at hr
        subst hr
        have hb : (ae != 0) = true := bne_iff_ne.mpr hae
        clear hae
        go_region
        go_wp2_with fail
        go_ret
        exact ⟨rfl, h5.drew.ra.rc.below⟩
      subst hae
      by_cases hbe : be = 0
      case neg =>
        have hr := HE.out
        rw [if_neg (by decide), if_pos hbe, Option.some.injEq] at hr
        subst hr
        have hb : (be != 0) = true := bne_iff_ne.mpr hbe
        clear hbe
        go_region
        go_wp2_with fail
        go_ret
        exact ⟨rfl, h5.drew.ra.rc.below⟩
      subst hbe
      cases ok with
      | false =>
        have hr := HE.out
        rw [if_neg (by decide), if_neg (by decide), if_pos rfl, Option.some.injEq] at hr
        subst hr
        go_region
        go_wp2_with fail
        go_ret
        exact ⟨rfl, h5.drew.ra.rc.below⟩
      | true =>
        by_cases hc : c > 0
        · have hr := HE.out
          rw [if_neg (by decide), if_neg (by decide), if_neg (by decide), if_pos hc, Option.some.injEq] at hr
          subst hr
          have hb := decide_eq_true hc
          clear hc
          go_region
          go_wp2_with fail
          go_ret
          exact ⟨rfl, h5.drew.ra.rc.below⟩
        have hr := HE.out
        rw [if_neg (by decide), if_neg (by decide), if_neg (by decide), if_neg hc] at hr
        have hcb := decide_eq_false hc
        clear hc HE
        unfold marquetryref22_Check.g at hr
        obtain ⟨⟨zk, zi, zt⟩, hza, hr1⟩ := Option.bind_eq_some_iff.mp hr
        clear hr
        have HZA := Lib.hid hza
        clear hza
        cases hzb : (!(zk == ak) || (!(zi == ai) || (!(zt.toList == at_.toList)))) with
        | true =>
          simp only at hr1
          rw [if_pos hzb, Option.some.injEq] at hr1
          subst hr1
          clear d50 d51 d52 d70 d71 d72
          refine wp_region_held_drew (S := (fun W => (W.cell? ⟨B5, 0, none⟩ = some (.int .i64 ak) ∧ W.cell? ⟨B5, 1, none⟩ = some (.int .i64 ai) ∧ W.cell? ⟨B5, 2, none⟩ = some (.string at_)) ∧ (W.cell? ⟨B7, 0, none⟩ = some (.int .i64 bk) ∧ W.cell? ⟨B7, 1, none⟩ = some (.int .i64 bi) ∧ W.cell? ⟨B7, 2, none⟩ = some (.string bt_)))) (by kernel_rfl) h5.drew.held (fun hHeld => ?_)
          refine tkY 0 (some 53) rfl rfl (by kernel_rfl) (by kernel_rfl) (by kernel_rfl) (fun _ _ _ h => h) (by rfl) (v := ?tkve0) ?tkye0 (by assumption) rfl ?tkre0
          case tkye0 =>
            intro W' hSw
            try dsimp only at hSw
            go_simp
            first | done | with_reducible rfl
          simp only [Act.put, List.setIfInBounds_toArray, List.set_cons_zero, List.set_cons_succ]
          refine tkY 1 (some 54) rfl rfl (by kernel_rfl) (by kernel_rfl) (by kernel_rfl) (fun _ _ _ h => h) (by rfl) (v := ?tkve1) ?tkye1 (by assumption) rfl ?tkre1
          case tkye1 =>
            intro W' hSw
            try dsimp only at hSw
            go_simp
            first | done | with_reducible rfl
          simp only [Act.put, List.setIfInBounds_toArray, List.set_cons_zero, List.set_cons_succ]
          refine tkY 2 (some 55) rfl rfl (by kernel_rfl) (by kernel_rfl) (by kernel_rfl) (fun _ _ _ h => h) (by rfl) (v := ?tkve2) ?tkye2 (by assumption) rfl ?tkre2
          case tkye2 =>
            intro W' hSw
            try dsimp only at hSw
            go_simp
            first | done | with_reducible rfl
          simp only [Act.put, List.setIfInBounds_toArray, List.set_cons_zero, List.set_cons_succ]
          refine tkY 3 (some 56) rfl rfl (by kernel_rfl) (by kernel_rfl) (by kernel_rfl) (fun _ _ _ h => h) (by rfl) (v := ?tkve3) ?tkye3 (by assumption) rfl ?tkre3
          case tkye3 =>
            intro W' hSw
            try dsimp only at hSw
            go_simp
            first | done | with_reducible rfl
          simp only [Act.put, List.setIfInBounds_toArray, List.set_cons_zero, List.set_cons_succ]
          refine tkY 4 (some 57) rfl rfl (by kernel_rfl) (by kernel_rfl) (by kernel_rfl) (fun _ _ _ h => h) (by rfl) (v := ?tkve4) ?tkye4 (by assumption) rfl ?tkre4
          case tkye4 =>
            intro W' hSw
            try dsimp only at hSw
            go_simp
            first | done | with_reducible rfl
          simp only [Act.put, List.setIfInBounds_toArray, List.set_cons_zero, List.set_cons_succ]
          refine tkY 5 (some 58) rfl rfl (by kernel_rfl) (by kernel_rfl) (by kernel_rfl) (fun _ _ _ h => h) (by rfl) (v := ?tkve5) ?tkye5 (by assumption) rfl ?tkre5
          case tkye5 =>
            intro W' hSw
            try dsimp only at hSw
            go_simp
            first | done | with_reducible rfl
          simp only [Act.put, List.setIfInBounds_toArray, List.set_cons_zero, List.set_cons_succ]
          refine tkY 6 (some 59) rfl rfl (by kernel_rfl) (by kernel_rfl) (by kernel_rfl) (fun _ _ _ h => h) (by rfl) (v := ?tkve6) ?tkye6 (by assumption) rfl ?tkre6
          case tkye6 =>
            intro W' hSw
            try dsimp only at hSw
            go_simp
            first | done | with_reducible rfl
          simp only [Act.put, List.setIfInBounds_toArray, List.set_cons_zero, List.set_cons_succ]
          refine tkY 7 (some 60) rfl rfl (by kernel_rfl) (by kernel_rfl) (by kernel_rfl) (fun _ _ _ h => h) (by rfl) (v := ?tkve7) ?tkye7 (by assumption) rfl ?tkre7
          case tkye7 =>
            intro W' hSw
            try dsimp only at hSw
            go_simp
            first | done | with_reducible rfl
          simp only [Act.put, List.setIfInBounds_toArray, List.set_cons_zero, List.set_cons_succ]
          refine tkY 8 (some 61) rfl rfl (by kernel_rfl) (by kernel_rfl) (by kernel_rfl) (fun _ _ _ h => h) (by rfl) (v := ?tkve8) ?tkye8 (by assumption) rfl ?tkre8
          case tkye8 =>
            intro W' hSw
            try dsimp only at hSw
            go_simp
            first | done | with_reducible rfl
          simp only [Act.put, List.setIfInBounds_toArray, List.set_cons_zero, List.set_cons_succ]
          refine tkY 9 (some 62) rfl rfl (by kernel_rfl) (by kernel_rfl) (by kernel_rfl) (fun _ _ _ h => h) (by rfl) (v := ?tkve9) ?tkye9 (by assumption) rfl ?tkre9
          case tkye9 =>
            intro W' hSw
            try dsimp only at hSw
            go_simp
            first | done | with_reducible rfl
          simp only [Act.put, List.setIfInBounds_toArray, List.set_cons_zero, List.set_cons_succ]
          refine tkY 10 (some 63) rfl rfl (by kernel_rfl) (by kernel_rfl) (by kernel_rfl) (fun _ _ _ h => h) (by rfl) (v := ?tkve10) ?tkye10 (by assumption) rfl ?tkre10
          case tkye10 =>
            intro W' hSw
            try dsimp only at hSw
            go_simp
            first | done | with_reducible rfl
          simp only [Act.put, List.setIfInBounds_toArray, List.set_cons_zero, List.set_cons_succ]
          refine tkY 11 (some 64) rfl rfl (by kernel_rfl) (by kernel_rfl) (by kernel_rfl) (fun _ _ _ h => h) (by rfl) (v := ?tkve11) ?tkye11 (by assumption) rfl ?tkre11
          case tkye11 =>
            intro W' hSw
            try dsimp only at hSw
            go_simp
            first | done | with_reducible rfl
          simp only [Act.put, List.setIfInBounds_toArray, List.set_cons_zero, List.set_cons_succ]
          refine tkY 12 (some 65) rfl rfl (by kernel_rfl) (by kernel_rfl) (by kernel_rfl) (fun _ _ _ h => h) (by rfl) (v := ?tkve12) ?tkye12 (by assumption) rfl ?tkre12
          case tkye12 =>
            intro W' hSw
            try dsimp only at hSw
            go_simp
            first | done | with_reducible rfl
          simp only [Act.put, List.setIfInBounds_toArray, List.set_cons_zero, List.set_cons_succ]
          refine tkY 13 (some 66) rfl rfl (by kernel_rfl) (by kernel_rfl) (by kernel_rfl) (fun _ _ _ h => h) (by rfl) (v := ?tkve13) ?tkye13 (by assumption) rfl ?tkre13
          case tkye13 =>
            intro W' hSw
            try dsimp only at hSw
            go_simp
            first | done | with_reducible rfl
          simp only [Act.put, List.setIfInBounds_toArray, List.set_cons_zero, List.set_cons_succ]
          refine tkY 14 (some 67) rfl rfl (by kernel_rfl) (by kernel_rfl) (by kernel_rfl) (fun _ _ _ h => h) (by rfl) (v := ?tkve14) ?tkye14 (by assumption) rfl ?tkre14
          case tkye14 =>
            intro W' hSw
            try dsimp only at hSw
            go_simp
            first | done | with_reducible rfl
          simp only [Act.put, List.setIfInBounds_toArray, List.set_cons_zero, List.set_cons_succ]
          refine tkY 15 (some 68) rfl rfl (by kernel_rfl) (by kernel_rfl) (by kernel_rfl) (fun _ _ _ h => h) (by rfl) (v := ?tkve15) ?tkye15 (by assumption) rfl ?tkre15
          case tkye15 =>
            intro W' hSw
            try dsimp only at hSw
            go_simp
            first | done | with_reducible rfl
          simp only [Act.put, List.setIfInBounds_toArray, List.set_cons_zero, List.set_cons_succ]
          refine tkY 17 (some 70) rfl rfl (by kernel_rfl) (by kernel_rfl) (by kernel_rfl) (fun _ _ _ h => h) (by rfl) (v := ?tkve17) ?tkye17 (by assumption) rfl ?tkre17
          case tkye17 =>
            intro W' hSw
            try dsimp only at hSw
            go_simp
            first | done | with_reducible rfl
          simp only [Act.put, List.setIfInBounds_toArray, List.set_cons_zero, List.set_cons_succ]
          refine wpAnyH_ready (rs := [16]) (by kernel_rfl) (by simp) (AllReadyH.cons (at_drop rfl) (fun K hK => ?_) AllReadyH.nil)
          go_simp
          (go_at_call_of 44 (Value.bool true); refine (marquetryref22_zero.calls k ak ai at_ true _ _ _ _ HZA.out).mono ?_; rintro e w6 ⟨rfl, hB6⟩; have h6 := h5.drew.next hB6)
          refine hK.out _ _ h6.held (fun hHeld => ?_)
          clear hK K
          try simp only [Act.put, List.setIfInBounds_toArray, List.set_cons_zero, List.set_cons_succ]
          refine tkY 18 (some 71) rfl rfl (by kernel_rfl) (by kernel_rfl) (by kernel_rfl) (fun _ _ _ h => h) (by rfl) (v := ?tkve18) ?tkye18 (by assumption) rfl ?tkre18
          case tkye18 =>
            intro W' hSw
            try dsimp only at hSw
            go_simp
            first | done | with_reducible rfl
          simp only [Act.put, List.setIfInBounds_toArray, List.set_cons_zero, List.set_cons_succ]
          refine tkY 19 (some 72) rfl rfl (by kernel_rfl) (by kernel_rfl) (by kernel_rfl) (fun _ _ _ h => h) (by rfl) (v := ?tkve19) ?tkye19 (by assumption) rfl ?tkre19
          case tkye19 =>
            intro W' hSw
            try dsimp only at hSw
            go_simp
            first | done | with_reducible rfl
          simp only [Act.put, List.setIfInBounds_toArray, List.set_cons_zero, List.set_cons_succ]
          refine tkY 20 (some 73) rfl rfl (by kernel_rfl) (by kernel_rfl) (by kernel_rfl) (fun _ _ _ h => h) (by rfl) (v := ?tkve20) ?tkye20 (by assumption) rfl ?tkre20
          case tkye20 =>
            intro W' hSw
            try dsimp only at hSw
            go_simp
            first | done | with_reducible rfl
          simp only [Act.put, List.setIfInBounds_toArray, List.set_cons_zero, List.set_cons_succ]
          refine tkN 21 (some 74) rfl rfl (by kernel_rfl) (by kernel_rfl) (by kernel_rfl) (fun _ _ _ h => h) (by rfl) (by assumption) rfl ?_
          simp only [Act.put, List.setIfInBounds_toArray, List.set_cons_zero, List.set_cons_succ]
          refine tkN 22 (some 75) rfl rfl (by kernel_rfl) (by kernel_rfl) (by kernel_rfl) (fun _ _ _ h => h) (by rfl) (by assumption) rfl ?_
          simp only [Act.put, List.setIfInBounds_toArray, List.set_cons_zero, List.set_cons_succ]
          refine tkN 23 (some 76) rfl rfl (by kernel_rfl) (by kernel_rfl) (by kernel_rfl) (fun _ _ _ h => h) (by rfl) (by assumption) rfl ?_
          simp only [Act.put, List.setIfInBounds_toArray, List.set_cons_zero, List.set_cons_succ]
          refine tkN 24 (some 77) rfl rfl (by kernel_rfl) (by kernel_rfl) (by kernel_rfl) (fun _ _ _ h => h) (by rfl) (by assumption) rfl ?_
          simp only [Act.put, List.setIfInBounds_toArray, List.set_cons_zero, List.set_cons_succ]
          refine tkY 25 (some 78) rfl rfl (by kernel_rfl) (by kernel_rfl) (by kernel_rfl) (fun _ _ _ h => h) (by rfl) (v := ?tkve25) ?tkye25 (by assumption) rfl ?tkre25
          case tkye25 =>
            intro W' hSw
            try dsimp only at hSw
            go_simp
            first | done | with_reducible rfl
          simp only [Act.put, List.setIfInBounds_toArray, List.set_cons_zero, List.set_cons_succ]
          refine wpAnyH_done (by kernel_rfl) ?_ _
          go_wp2_with fail
          go_ret
          exact ⟨rfl, h6.ra.rc.below⟩
        | false =>
          simp only at hr1
          rw [if_neg (by rw [hzb]; decide)] at hr1
          obtain ⟨⟨yk, yi, yt⟩, hya, hr2⟩ := Option.bind_eq_some_iff.mp hr1
          clear hr1
          have HZB := Lib.hid hya
          clear hya d50 d51 d52 d70 d71 d72
          simp only at hr2
          have H2 := Lib.hid hr2
          clear hr2
          refine wp_region_held_drew (S := (fun W => (W.cell? ⟨B5, 0, none⟩ = some (.int .i64 ak) ∧ W.cell? ⟨B5, 1, none⟩ = some (.int .i64 ai) ∧ W.cell? ⟨B5, 2, none⟩ = some (.string at_)) ∧ (W.cell? ⟨B7, 0, none⟩ = some (.int .i64 bk) ∧ W.cell? ⟨B7, 1, none⟩ = some (.int .i64 bi) ∧ W.cell? ⟨B7, 2, none⟩ = some (.string bt_)))) (by kernel_rfl) h5.drew.held (fun hHeld => ?_)
          refine tkY 0 (some 53) rfl rfl (by kernel_rfl) (by kernel_rfl) (by kernel_rfl) (fun _ _ _ h => h) (by rfl) (v := ?tkvf0) ?tkyf0 (by assumption) rfl ?tkrf0
          case tkyf0 =>
            intro W' hSw
            try dsimp only at hSw
            go_simp
            first | done | with_reducible rfl
          simp only [Act.put, List.setIfInBounds_toArray, List.set_cons_zero, List.set_cons_succ]
          refine tkY 1 (some 54) rfl rfl (by kernel_rfl) (by kernel_rfl) (by kernel_rfl) (fun _ _ _ h => h) (by rfl) (v := ?tkvf1) ?tkyf1 (by assumption) rfl ?tkrf1
          case tkyf1 =>
            intro W' hSw
            try dsimp only at hSw
            go_simp
            first | done | with_reducible rfl
          simp only [Act.put, List.setIfInBounds_toArray, List.set_cons_zero, List.set_cons_succ]
          refine tkY 2 (some 55) rfl rfl (by kernel_rfl) (by kernel_rfl) (by kernel_rfl) (fun _ _ _ h => h) (by rfl) (v := ?tkvf2) ?tkyf2 (by assumption) rfl ?tkrf2
          case tkyf2 =>
            intro W' hSw
            try dsimp only at hSw
            go_simp
            first | done | with_reducible rfl
          simp only [Act.put, List.setIfInBounds_toArray, List.set_cons_zero, List.set_cons_succ]
          refine tkY 3 (some 56) rfl rfl (by kernel_rfl) (by kernel_rfl) (by kernel_rfl) (fun _ _ _ h => h) (by rfl) (v := ?tkvf3) ?tkyf3 (by assumption) rfl ?tkrf3
          case tkyf3 =>
            intro W' hSw
            try dsimp only at hSw
            go_simp
            first | done | with_reducible rfl
          simp only [Act.put, List.setIfInBounds_toArray, List.set_cons_zero, List.set_cons_succ]
          refine tkY 4 (some 57) rfl rfl (by kernel_rfl) (by kernel_rfl) (by kernel_rfl) (fun _ _ _ h => h) (by rfl) (v := ?tkvf4) ?tkyf4 (by assumption) rfl ?tkrf4
          case tkyf4 =>
            intro W' hSw
            try dsimp only at hSw
            go_simp
            first | done | with_reducible rfl
          simp only [Act.put, List.setIfInBounds_toArray, List.set_cons_zero, List.set_cons_succ]
          refine tkY 5 (some 58) rfl rfl (by kernel_rfl) (by kernel_rfl) (by kernel_rfl) (fun _ _ _ h => h) (by rfl) (v := ?tkvf5) ?tkyf5 (by assumption) rfl ?tkrf5
          case tkyf5 =>
            intro W' hSw
            try dsimp only at hSw
            go_simp
            first | done | with_reducible rfl
          simp only [Act.put, List.setIfInBounds_toArray, List.set_cons_zero, List.set_cons_succ]
          refine tkY 6 (some 59) rfl rfl (by kernel_rfl) (by kernel_rfl) (by kernel_rfl) (fun _ _ _ h => h) (by rfl) (v := ?tkvf6) ?tkyf6 (by assumption) rfl ?tkrf6
          case tkyf6 =>
            intro W' hSw
            try dsimp only at hSw
            go_simp
            first | done | with_reducible rfl
          simp only [Act.put, List.setIfInBounds_toArray, List.set_cons_zero, List.set_cons_succ]
          refine tkY 7 (some 60) rfl rfl (by kernel_rfl) (by kernel_rfl) (by kernel_rfl) (fun _ _ _ h => h) (by rfl) (v := ?tkvf7) ?tkyf7 (by assumption) rfl ?tkrf7
          case tkyf7 =>
            intro W' hSw
            try dsimp only at hSw
            go_simp
            first | done | with_reducible rfl
          simp only [Act.put, List.setIfInBounds_toArray, List.set_cons_zero, List.set_cons_succ]
          refine tkY 8 (some 61) rfl rfl (by kernel_rfl) (by kernel_rfl) (by kernel_rfl) (fun _ _ _ h => h) (by rfl) (v := ?tkvf8) ?tkyf8 (by assumption) rfl ?tkrf8
          case tkyf8 =>
            intro W' hSw
            try dsimp only at hSw
            go_simp
            first | done | with_reducible rfl
          simp only [Act.put, List.setIfInBounds_toArray, List.set_cons_zero, List.set_cons_succ]
          refine tkY 9 (some 62) rfl rfl (by kernel_rfl) (by kernel_rfl) (by kernel_rfl) (fun _ _ _ h => h) (by rfl) (v := ?tkvf9) ?tkyf9 (by assumption) rfl ?tkrf9
          case tkyf9 =>
            intro W' hSw
            try dsimp only at hSw
            go_simp
            first | done | with_reducible rfl
          simp only [Act.put, List.setIfInBounds_toArray, List.set_cons_zero, List.set_cons_succ]
          refine tkY 10 (some 63) rfl rfl (by kernel_rfl) (by kernel_rfl) (by kernel_rfl) (fun _ _ _ h => h) (by rfl) (v := ?tkvf10) ?tkyf10 (by assumption) rfl ?tkrf10
          case tkyf10 =>
            intro W' hSw
            try dsimp only at hSw
            go_simp
            first | done | with_reducible rfl
          simp only [Act.put, List.setIfInBounds_toArray, List.set_cons_zero, List.set_cons_succ]
          refine tkY 11 (some 64) rfl rfl (by kernel_rfl) (by kernel_rfl) (by kernel_rfl) (fun _ _ _ h => h) (by rfl) (v := ?tkvf11) ?tkyf11 (by assumption) rfl ?tkrf11
          case tkyf11 =>
            intro W' hSw
            try dsimp only at hSw
            go_simp
            first | done | with_reducible rfl
          simp only [Act.put, List.setIfInBounds_toArray, List.set_cons_zero, List.set_cons_succ]
          refine tkY 12 (some 65) rfl rfl (by kernel_rfl) (by kernel_rfl) (by kernel_rfl) (fun _ _ _ h => h) (by rfl) (v := ?tkvf12) ?tkyf12 (by assumption) rfl ?tkrf12
          case tkyf12 =>
            intro W' hSw
            try dsimp only at hSw
            go_simp
            first | done | with_reducible rfl
          simp only [Act.put, List.setIfInBounds_toArray, List.set_cons_zero, List.set_cons_succ]
          refine tkY 13 (some 66) rfl rfl (by kernel_rfl) (by kernel_rfl) (by kernel_rfl) (fun _ _ _ h => h) (by rfl) (v := ?tkvf13) ?tkyf13 (by assumption) rfl ?tkrf13
          case tkyf13 =>
            intro W' hSw
            try dsimp only at hSw
            go_simp
            first | done | with_reducible rfl
          simp only [Act.put, List.setIfInBounds_toArray, List.set_cons_zero, List.set_cons_succ]
          refine tkY 14 (some 67) rfl rfl (by kernel_rfl) (by kernel_rfl) (by kernel_rfl) (fun _ _ _ h => h) (by rfl) (v := ?tkvf14) ?tkyf14 (by assumption) rfl ?tkrf14
          case tkyf14 =>
            intro W' hSw
            try dsimp only at hSw
            go_simp
            first | done | with_reducible rfl
          simp only [Act.put, List.setIfInBounds_toArray, List.set_cons_zero, List.set_cons_succ]
          refine tkY 15 (some 68) rfl rfl (by kernel_rfl) (by kernel_rfl) (by kernel_rfl) (fun _ _ _ h => h) (by rfl) (v := ?tkvf15) ?tkyf15 (by assumption) rfl ?tkrf15
          case tkyf15 =>
            intro W' hSw
            try dsimp only at hSw
            go_simp
            first | done | with_reducible rfl
          simp only [Act.put, List.setIfInBounds_toArray, List.set_cons_zero, List.set_cons_succ]
          refine tkY 17 (some 70) rfl rfl (by kernel_rfl) (by kernel_rfl) (by kernel_rfl) (fun _ _ _ h => h) (by rfl) (v := ?tkvf17) ?tkyf17 (by assumption) rfl ?tkrf17
          case tkyf17 =>
            intro W' hSw
            try dsimp only at hSw
            go_simp
            first | done | with_reducible rfl
          simp only [Act.put, List.setIfInBounds_toArray, List.set_cons_zero, List.set_cons_succ]
          refine wpAnyH_ready (rs := [16]) (by kernel_rfl) (by simp) (AllReadyH.cons (at_drop rfl) (fun K hK => ?_) AllReadyH.nil)
          go_simp
          (go_at_call_of 44 (Value.bool true); refine (marquetryref22_zero.calls k ak ai at_ true _ _ _ _ HZA.out).mono ?_; rintro e w6 ⟨rfl, hB6⟩; have h6 := h5.drew.next hB6)
          refine hK.out _ _ h6.held (fun hHeld => ?_)
          clear hK K
          try simp only [Act.put, List.setIfInBounds_toArray, List.set_cons_zero, List.set_cons_succ]
          refine tkY 18 (some 71) rfl rfl (by kernel_rfl) (by kernel_rfl) (by kernel_rfl) (fun _ _ _ h => h) (by rfl) (v := ?tkvf18) ?tkyf18 (by assumption) rfl ?tkrf18
          case tkyf18 =>
            intro W' hSw
            try dsimp only at hSw
            go_simp
            first | done | with_reducible rfl
          simp only [Act.put, List.setIfInBounds_toArray, List.set_cons_zero, List.set_cons_succ]
          refine tkY 19 (some 72) rfl rfl (by kernel_rfl) (by kernel_rfl) (by kernel_rfl) (fun _ _ _ h => h) (by rfl) (v := ?tkvf19) ?tkyf19 (by assumption) rfl ?tkrf19
          case tkyf19 =>
            intro W' hSw
            try dsimp only at hSw
            go_simp
            first | done | with_reducible rfl
          simp only [Act.put, List.setIfInBounds_toArray, List.set_cons_zero, List.set_cons_succ]
          refine tkY 20 (some 73) rfl rfl (by kernel_rfl) (by kernel_rfl) (by kernel_rfl) (fun _ _ _ h => h) (by rfl) (v := ?tkvf20) ?tkyf20 (by assumption) rfl ?tkrf20
          case tkyf20 =>
            intro W' hSw
            try dsimp only at hSw
            go_simp
            first | done | with_reducible rfl
          simp only [Act.put, List.setIfInBounds_toArray, List.set_cons_zero, List.set_cons_succ]
          refine tkY 21 (some 74) rfl rfl (by kernel_rfl) (by kernel_rfl) (by kernel_rfl) (fun _ _ _ h => h) (by rfl) (v := ?tkvf21) ?tkyf21 (by assumption) rfl ?tkrf21
          case tkyf21 =>
            intro W' hSw
            try dsimp only at hSw
            go_simp
            first | done | with_reducible rfl
          simp only [Act.put, List.setIfInBounds_toArray, List.set_cons_zero, List.set_cons_succ]
          refine tkY 23 (some 76) rfl rfl (by kernel_rfl) (by kernel_rfl) (by kernel_rfl) (fun _ _ _ h => h) (by rfl) (v := ?tkvf23) ?tkyf23 (by assumption) rfl ?tkrf23
          case tkyf23 =>
            intro W' hSw
            try dsimp only at hSw
            go_simp
            first | done | with_reducible rfl
          simp only [Act.put, List.setIfInBounds_toArray, List.set_cons_zero, List.set_cons_succ]
          refine wpAnyH_ready (rs := [22]) (by kernel_rfl) (by simp) (AllReadyH.cons (at_drop rfl) (fun K hK => ?_) AllReadyH.nil)
          go_simp
          (go_at_call_of 44 (Value.bool false); refine (marquetryref22_zero.calls k bk bi bt_ false _ _ _ _ HZB.out).mono ?_; rintro e w7 ⟨rfl, hB7⟩; have h7 := h6.next hB7)
          refine hK.out _ _ h7.held (fun hHeld => ?_)
          clear hK K
          try simp only [Act.put, List.setIfInBounds_toArray, List.set_cons_zero, List.set_cons_succ]
          refine tkY 24 (some 77) rfl rfl (by kernel_rfl) (by kernel_rfl) (by kernel_rfl) (fun _ _ _ h => h) (by rfl) (v := ?tkvf24) ?tkyf24 (by assumption) rfl ?tkrf24
          case tkyf24 =>
            intro W' hSw
            try dsimp only at hSw
            go_simp
            first | done | with_reducible rfl
          simp only [Act.put, List.setIfInBounds_toArray, List.set_cons_zero, List.set_cons_succ]
          refine tkY 25 (some 78) rfl rfl (by kernel_rfl) (by kernel_rfl) (by kernel_rfl) (fun _ _ _ h => h) (by rfl) (v := ?tkvf25) ?tkyf25 (by assumption) rfl ?tkrf25
          case tkyf25 =>
            intro W' hSw
            try dsimp only at hSw
            go_simp
            first | done | with_reducible rfl
          simp only [Act.put, List.setIfInBounds_toArray, List.set_cons_zero, List.set_cons_succ]
          refine wpAnyH_done (by kernel_rfl) ?_ _
          have hr := H2.out
          cases hyb : (!(yk == bk) || (!(yi == bi) || (!(yt.toList == bt_.toList)))) with
          | true =>
            rw [if_pos hyb, Option.some.injEq] at hr
            subst hr
            go_wp2_with fail
            go_ret
            exact ⟨rfl, h7.ra.rc.below⟩
          | false =>
            rw [if_neg (by rw [hyb]; decide), Option.some.injEq] at hr
            subst hr
            go_wp2_with fail
            go_ret
            exact ⟨rfl, h7.ra.rc.below⟩


end Go.Proofs.Ytncehlbhjoejhaa.H
end
