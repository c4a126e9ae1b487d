/- Texts of the claim, packed: H26, H27. -/
import Derived.Test.YtnbmgljcnbhinaaDoorZRecordsCheck7
section
-- Laid by this session's hprint.py, out of the kit's print.py and texts of the session. Not trusted: Lean checks it.
namespace Go.Proofs.YtnbmgljcnbhinaaDoor.H
open Go.RowKit Go.Proofs.YtnbmgljcnbhinaaDoorW.PrintWords Go.Proofs.YtnbmgljcnbhinaaDoorW.PrintLast Go.Proofs.YtnbmgljcnbhinaaDoorW.PrintMore
attribute [local go_sem] max2_int min2_int max_two min_two max_three min_three max_four min_four   -- for this text's walks alone
set_option linter.unusedVariables false
set_option linter.unusedSimpArgs false

/-! ### marquetryref16_fine: function 50 -/
mutual
def marquetryref16_fine.l0 : Nat → List (S64) → Int → Option (Bool)
  | 0, _, _ => none
  | k + 1, x0, x3 => if x3 < (x0.length : Int) then (if 0 ≤ x3 then (marquetryref16_fine.l1 k x0 x3 0 ((rd_T64 x0 x3).f0) ((rd_T64 x0 x3).f1) ((rd_T64 x0 x3).f2) ((rd_T64 x0 x3).f3) ((rd_T64 x0 x3).f4) ((rd_T64 x0 x3).f5)) else (none)) else (some true)
def marquetryref16_fine.l1 : Nat → List (S64) → Int → Int → ByteArray → Int → Bool → Int → Int → List (S64) → Option (Bool)
  | 0, _, _, _, _, _, _, _, _, _ => none
  | k + 1, x0, x3, x5, x140000, x140001, x140002, x140003, x140004, x140005 => if x5 < x3 then (if 0 ≤ x5 then (if x5 < (x0.length : Int) then (if ((rd_T64 x0 x5).f0).toList = x140000.toList then (some false) else (marquetryref16_fine.l1 k x0 x3 (wrap64 (x5 + 1)) x140000 x140001 x140002 x140003 x140004 x140005)) else (none)) else (none)) else ((marquetryref16_named.f k x140000).bind fun t141 => (if t141 = true then (if x140001 < 0 then (marquetryref16_fine.j2 k x0 x3 true x140000 x140001 x140002 x140003 x140004 x140005) else (marquetryref16_fine.j2 k x0 x3 (decide (x140001 > 2)) x140000 x140001 x140002 x140003 x140004 x140005)) else (marquetryref16_fine.j2 k x0 x3 true x140000 x140001 x140002 x140003 x140004 x140005)))
def marquetryref16_fine.j2 : Nat → List (S64) → Int → Bool → ByteArray → Int → Bool → Int → Int → List (S64) → Option (Bool)
  | 0, _, _, _, _, _, _, _, _, _ => none
  | k + 1, x0, x3, x42, x140000, x140001, x140002, x140003, x140004, x140005 => if x42 = true then (some false) else (if x140002 = true then (if (x140005.length : Int) = 0 then (marquetryref16_fine.j3 k x0 x3 true x140000 x140001 x140002 x140003 x140004 x140005) else (if x140003 = 0 then (if x140004 = 0 then ((marquetryref16_fine.f k x140005).bind fun t142 => (marquetryref16_fine.j3 k x0 x3 (!t142) x140000 x140001 x140002 x140003 x140004 x140005)) else (marquetryref16_fine.j3 k x0 x3 true x140000 x140001 x140002 x140003 x140004 x140005)) else (marquetryref16_fine.j3 k x0 x3 true x140000 x140001 x140002 x140003 x140004 x140005))) else (marquetryref16_fine.j3 k x0 x3 false x140000 x140001 x140002 x140003 x140004 x140005))
def marquetryref16_fine.j3 : Nat → List (S64) → Int → Bool → ByteArray → Int → Bool → Int → Int → List (S64) → Option (Bool)
  | 0, _, _, _, _, _, _, _, _, _ => none
  | k + 1, x0, x3, x66, x140000, x140001, x140002, x140003, x140004, x140005 => if x66 = true then (some false) else (if x140002 = true then (marquetryref16_fine.l0 k x0 (wrap64 (x3 + 1))) else (if (x140005.length : Int) > 0 then (some false) else ((marquetryref09_Check.f k x140003 x140004).bind fun t143 => (if t143 = true then (marquetryref16_fine.l0 k x0 (wrap64 (x3 + 1))) else (some false)))))
def marquetryref16_fine.f : Nat → List (S64) → Option (Bool)
  | 0, _ => none
  | k + 1, l0 => marquetryref16_fine.l0 k l0 0
end
set_option maxHeartbeats 8000000 in
set_option maxRecDepth 100000 in
theorem marquetryref16_fine.calls (k : Nat) : ∀ (A0 : Option Addr) (c0 : Nat) (l0 : List (S64)) (r : Bool) (w : World) (hr0 : Kd.C k64 w A0 l0.length l0) (hc0 : l0.length ≤ c0) (h : marquetryref16_fine.f k l0 = some r),
    Calls Tryd.prog 50 #[.slice A0 l0.length c0] w fun e w' => e = .returned (.bool r) ∧ Below w.heap.size w w' := by
  induction k using Nat.strongRecOn with
  | _ k ih =>
  intro A0 c0 l0 r w hr0 hc0 h
  cases k with
  | zero => exact absurd h (by simp [marquetryref16_fine.f])
  | succ k =>
  simp only [marquetryref16_fine.f] at h
  have hu64 := Tryd.underlying64
  have hu79 := Tryd.underlying79
  have HR0 := Aside0.mk hr0
  have HC0 := Aside0.mk hc0
  clear hr0 hc0
  have HB := Aside0.mk (Below.refl w.heap.size w)
  have H : (marquetryref16_fine.l0 k l0 0) = some r := h
  clear h
  have H' := Aside0.mk H
  clear H
  go_enter Tryd.func50, Tryd.ntmps50
  go_wp2
  repeat (go_quiet (fail); try go_wp2)
  go_loopg [3] k (fun kq v3 w' => ∃ (x3_1 : Int), v3 = .int .i64 x3_1 ∧ Aside0 (marquetryref16_fine.l0 kq l0 x3_1 = some r) ∧ Aside0 (kq ≤ k) ∧ Aside0 (Below w.heap.size w w'))
  case atStart => exact ⟨(0), (by first | rfl | (simp; done) | (simp [*]; done)), H', ⟨Nat.le_refl _⟩, ⟨by repeat (first | (with_reducible first | exact HB.out | apply below_alloc | apply pw_below_drewN | apply below_drew1) | exact HB.out)⟩⟩
  case round =>
    clear H'
    obtain ⟨x3_1, rfl, HA, HK1, HB⟩ := hrel
    cases gk with
    | zero => exact absurd HA.out (by simp [marquetryref16_fine.l0])
    | succ k1 =>
      have H := HA.out
      clear HA
      simp only [marquetryref16_fine.l0] at H
      by_cases c2 : x3_1 < (l0.length : Int)
      · rw [if_pos c2] at H
        have c2b0 : decide (x3_1 < (l0.length : Int)) = true := decide_eq_true c2
        clear c2
        by_cases c3 : 0 ≤ x3_1
        · rw [if_pos c3] at H
          have c3b0 : decide (0 ≤ x3_1) = true := decide_eq_true c3
          clear c3
          have H' := Aside0.mk H
          clear H
          have p138 : 0 ≤ (x3_1 : Int) := of_decide_eq_true (by first | (with_reducible assumption) | assumption)
          have q138 : x3_1 < (l0.length : Int) := of_decide_eq_true (by first | (with_reducible assumption) | assumption)
          obtain ⟨ad138, A138_5, c138_5, e138, hx138_0, hx138_1, hx138_2, hx138_3, hx138_4, hx138_5, hl138_5, hi138_5⟩ := at_T64 HR0.out x3_1 p138 q138
          cases e138
          replace hx138_0 := (HB.out.cell (World.block_lt_of_cell? w _ hx138_0)).trans hx138_0
          replace hx138_1 := (HB.out.cell (World.block_lt_of_cell? w _ hx138_1)).trans hx138_1
          replace hx138_2 := (HB.out.cell (World.block_lt_of_cell? w _ hx138_2)).trans hx138_2
          replace hx138_3 := (HB.out.cell (World.block_lt_of_cell? w _ hx138_3)).trans hx138_3
          replace hx138_4 := (HB.out.cell (World.block_lt_of_cell? w _ hx138_4)).trans hx138_4
          replace hx138_5 := (HB.out.cell (World.block_lt_of_cell? w _ hx138_5)).trans hx138_5
          have HR138_5 := Aside0.mk hi138_5
          have HC138_5 := Aside0.mk hl138_5
          clear hi138_5 hl138_5
          replace p138 := eq_true p138
          replace q138 := eq_true q138
          go_wp2_with (first | ((with_reducible refine gate_dst (N := 4) rfl ?_); (try (refine gate_guard (by rfl) ?_; dsimp only)); refine box_event ?hg (N := 4) ?hd (cs := #[.string (⟨#[]⟩ : ByteArray), .int .i64 0, .bool false, .int .i64 0, .int .i64 0, .slice none 0 0]) (t := 64) ?hr ?_; (case hd => rfl); (case hg => rfl); (case hr => first | (go_simp; done) | (go_simp; rfl)); intro gb139 hg w4 hbox hb; have n0_ := Aside0.mk (below_step (by repeat (first | (with_reducible first | exact HB.out | apply below_alloc | apply pw_below_drewN | apply below_drew1) | exact HB.out)) hb); have n1_ := Aside0.mk (hbox); have n2_ := Aside0.mk ((by rw [hg]; exact (below_size (by repeat (first | (with_reducible first | exact HB.out | apply below_alloc | apply pw_below_drewN | apply below_drew1) | exact HB.out))) : w.heap.size ≤ gb139)); have n3_ := Aside0.mk ((by rw [hg]; exact (below_size (by repeat (first | (with_reducible first | exact HB.out | apply below_alloc | apply pw_below_drewN | apply below_drew1) | exact HB.out))) : w.heap.size ≤ gb139)); clear HB; have HB := n0_; have BK139 := n1_; have GW139 := n2_; have GE139 := n3_; clear n0_ n1_ n2_ n3_; clear hb hbox hg; have hcz5_0 : w4.cell? ⟨gb139, 0, none⟩ = some (.string (⟨#[]⟩ : ByteArray)) := (blk_cell BK139.out 0).trans rfl; have hcz5_1 : w4.cell? ⟨gb139, 1, none⟩ = some (.int .i64 0) := (blk_cell BK139.out 1).trans rfl; have hcz5_2 : w4.cell? ⟨gb139, 2, none⟩ = some (.bool false) := (blk_cell BK139.out 2).trans rfl; have hcz5_3 : w4.cell? ⟨gb139, 3, none⟩ = some (.int .i64 0) := (blk_cell BK139.out 3).trans rfl; have hcz5_4 : w4.cell? ⟨gb139, 4, none⟩ = some (.int .i64 0) := (blk_cell BK139.out 4).trans rfl; have hcz5_5 : w4.cell? ⟨gb139, 5, none⟩ = some (.slice none 0 0) := (blk_cell BK139.out 5).trans rfl; have hfz5_0 := blk_frozen BK139.out 0; have hfz5_1 := blk_frozen BK139.out 1; have hfz5_2 := blk_frozen BK139.out 2; have hfz5_3 := blk_frozen BK139.out 3; have hfz5_4 := blk_frozen BK139.out 4; have hfz5_5 := blk_frozen BK139.out 5))
          repeat (go_quiet (first | ((with_reducible refine gate_dst (N := 4) rfl ?_); (try (refine gate_guard (by rfl) ?_; dsimp only)); refine box_event ?hg (N := 4) ?hd (cs := #[.string (⟨#[]⟩ : ByteArray), .int .i64 0, .bool false, .int .i64 0, .int .i64 0, .slice none 0 0]) (t := 64) ?hr ?_; (case hd => rfl); (case hg => rfl); (case hr => first | (go_simp; done) | (go_simp; rfl)); intro gb139 hg w4 hbox hb; have n0_ := Aside0.mk (below_step (by repeat (first | (with_reducible first | exact HB.out | apply below_alloc | apply pw_below_drewN | apply below_drew1) | exact HB.out)) hb); have n1_ := Aside0.mk (hbox); have n2_ := Aside0.mk ((by rw [hg]; exact (below_size (by repeat (first | (with_reducible first | exact HB.out | apply below_alloc | apply pw_below_drewN | apply below_drew1) | exact HB.out))) : w.heap.size ≤ gb139)); have n3_ := Aside0.mk ((by rw [hg]; exact (below_size (by repeat (first | (with_reducible first | exact HB.out | apply below_alloc | apply pw_below_drewN | apply below_drew1) | exact HB.out))) : w.heap.size ≤ gb139)); clear HB; have HB := n0_; have BK139 := n1_; have GW139 := n2_; have GE139 := n3_; clear n0_ n1_ n2_ n3_; clear hb hbox hg; have hcz5_0 : w4.cell? ⟨gb139, 0, none⟩ = some (.string (⟨#[]⟩ : ByteArray)) := (blk_cell BK139.out 0).trans rfl; have hcz5_1 : w4.cell? ⟨gb139, 1, none⟩ = some (.int .i64 0) := (blk_cell BK139.out 1).trans rfl; have hcz5_2 : w4.cell? ⟨gb139, 2, none⟩ = some (.bool false) := (blk_cell BK139.out 2).trans rfl; have hcz5_3 : w4.cell? ⟨gb139, 3, none⟩ = some (.int .i64 0) := (blk_cell BK139.out 3).trans rfl; have hcz5_4 : w4.cell? ⟨gb139, 4, none⟩ = some (.int .i64 0) := (blk_cell BK139.out 4).trans rfl; have hcz5_5 : w4.cell? ⟨gb139, 5, none⟩ = some (.slice none 0 0) := (blk_cell BK139.out 5).trans rfl; have hfz5_0 := blk_frozen BK139.out 0; have hfz5_1 := blk_frozen BK139.out 1; have hfz5_2 := blk_frozen BK139.out 2; have hfz5_3 := blk_frozen BK139.out 3; have hfz5_4 := blk_frozen BK139.out 4; have hfz5_5 := blk_frozen BK139.out 5)); try go_wp2_with (first | ((with_reducible refine gate_dst (N := 4) rfl ?_); (try (refine gate_guard (by rfl) ?_; dsimp only)); refine box_event ?hg (N := 4) ?hd (cs := #[.string (⟨#[]⟩ : ByteArray), .int .i64 0, .bool false, .int .i64 0, .int .i64 0, .slice none 0 0]) (t := 64) ?hr ?_; (case hd => rfl); (case hg => rfl); (case hr => first | (go_simp; done) | (go_simp; rfl)); intro gb139 hg w4 hbox hb; have n0_ := Aside0.mk (below_step (by repeat (first | (with_reducible first | exact HB.out | apply below_alloc | apply pw_below_drewN | apply below_drew1) | exact HB.out)) hb); have n1_ := Aside0.mk (hbox); have n2_ := Aside0.mk ((by rw [hg]; exact (below_size (by repeat (first | (with_reducible first | exact HB.out | apply below_alloc | apply pw_below_drewN | apply below_drew1) | exact HB.out))) : w.heap.size ≤ gb139)); have n3_ := Aside0.mk ((by rw [hg]; exact (below_size (by repeat (first | (with_reducible first | exact HB.out | apply below_alloc | apply pw_below_drewN | apply below_drew1) | exact HB.out))) : w.heap.size ≤ gb139)); clear HB; have HB := n0_; have BK139 := n1_; have GW139 := n2_; have GE139 := n3_; clear n0_ n1_ n2_ n3_; clear hb hbox hg; have hcz5_0 : w4.cell? ⟨gb139, 0, none⟩ = some (.string (⟨#[]⟩ : ByteArray)) := (blk_cell BK139.out 0).trans rfl; have hcz5_1 : w4.cell? ⟨gb139, 1, none⟩ = some (.int .i64 0) := (blk_cell BK139.out 1).trans rfl; have hcz5_2 : w4.cell? ⟨gb139, 2, none⟩ = some (.bool false) := (blk_cell BK139.out 2).trans rfl; have hcz5_3 : w4.cell? ⟨gb139, 3, none⟩ = some (.int .i64 0) := (blk_cell BK139.out 3).trans rfl; have hcz5_4 : w4.cell? ⟨gb139, 4, none⟩ = some (.int .i64 0) := (blk_cell BK139.out 4).trans rfl; have hcz5_5 : w4.cell? ⟨gb139, 5, none⟩ = some (.slice none 0 0) := (blk_cell BK139.out 5).trans rfl; have hfz5_0 := blk_frozen BK139.out 0; have hfz5_1 := blk_frozen BK139.out 1; have hfz5_2 := blk_frozen BK139.out 2; have hfz5_3 := blk_frozen BK139.out 3; have hfz5_4 := blk_frozen BK139.out 4; have hfz5_5 := blk_frozen BK139.out 5)))
          go_loopg [5] k1 (fun kq v5 w' => ∃ (x5_2 : Int), v5 = .int .i64 x5_2 ∧ Aside0 (marquetryref16_fine.l1 kq l0 x3_1 x5_2 ((rd_T64 l0 x3_1).f0) ((rd_T64 l0 x3_1).f1) ((rd_T64 l0 x3_1).f2) ((rd_T64 l0 x3_1).f3) ((rd_T64 l0 x3_1).f4) ((rd_T64 l0 x3_1).f5) = some r) ∧ Aside0 (kq ≤ k1) ∧ Aside0 (w'.heap[gb139]? = some (.cells #[.string ((rd_T64 l0 x3_1).f0), .int .i64 ((rd_T64 l0 x3_1).f1), .bool ((rd_T64 l0 x3_1).f2), .int .i64 ((rd_T64 l0 x3_1).f3), .int .i64 ((rd_T64 l0 x3_1).f4), (.slice A138_5 ((rd_T64 l0 x3_1).f5).length c138_5)] 64 (0, 0))) ∧ Aside0 (Below w.heap.size w w'))
          case atStart => exact ⟨(0), (by first | rfl | (simp; done) | (simp [*]; done)), H', ⟨Nat.le_refl _⟩, ⟨by (with_reducible repeat (first | refine blk_drewN ?_ _ | refine blk_drew ?_ | refine blk_alloc ?_ _)); refine blk_put (cs := #[.string ((rd_T64 l0 x3_1).f0), .int .i64 ((rd_T64 l0 x3_1).f1), .bool ((rd_T64 l0 x3_1).f2), .int .i64 ((rd_T64 l0 x3_1).f3), .int .i64 ((rd_T64 l0 x3_1).f4), .slice none 0 0]) ?_ 5 _ rfl; (with_reducible repeat (first | refine blk_drewN ?_ _ | refine blk_drew ?_ | refine blk_alloc ?_ _)); refine blk_put (cs := #[.string ((rd_T64 l0 x3_1).f0), .int .i64 ((rd_T64 l0 x3_1).f1), .bool ((rd_T64 l0 x3_1).f2), .int .i64 ((rd_T64 l0 x3_1).f3), .int .i64 0, .slice none 0 0]) ?_ 4 _ rfl; (with_reducible repeat (first | refine blk_drewN ?_ _ | refine blk_drew ?_ | refine blk_alloc ?_ _)); refine blk_put (cs := #[.string ((rd_T64 l0 x3_1).f0), .int .i64 ((rd_T64 l0 x3_1).f1), .bool ((rd_T64 l0 x3_1).f2), .int .i64 0, .int .i64 0, .slice none 0 0]) ?_ 3 _ rfl; (with_reducible repeat (first | refine blk_drewN ?_ _ | refine blk_drew ?_ | refine blk_alloc ?_ _)); refine blk_put (cs := #[.string ((rd_T64 l0 x3_1).f0), .int .i64 ((rd_T64 l0 x3_1).f1), .bool false, .int .i64 0, .int .i64 0, .slice none 0 0]) ?_ 2 _ rfl; (with_reducible repeat (first | refine blk_drewN ?_ _ | refine blk_drew ?_ | refine blk_alloc ?_ _)); refine blk_put (cs := #[.string ((rd_T64 l0 x3_1).f0), .int .i64 0, .bool false, .int .i64 0, .int .i64 0, .slice none 0 0]) ?_ 1 _ rfl; (with_reducible repeat (first | refine blk_drewN ?_ _ | refine blk_drew ?_ | refine blk_alloc ?_ _)); refine blk_put (cs := #[.string (⟨#[]⟩ : ByteArray), .int .i64 0, .bool false, .int .i64 0, .int .i64 0, .slice none 0 0]) ?_ 0 _ rfl; (with_reducible repeat (first | refine blk_drewN ?_ _ | refine blk_drew ?_ | refine blk_alloc ?_ _)); exact BK139.out⟩, ⟨by repeat (first | (with_reducible first | exact HB.out | apply below_alloc | apply pw_below_drewN | apply below_drew1 | refine below_set ?_ GE139.out) | exact HB.out)⟩⟩
          case round =>
            clear H'
            try clear c1
            try clear p1
            try clear q1
            try clear hx1
            try clear c2
            try clear c2b0
            try clear p2
            try clear c3
            try clear c3b0
            try clear c5
            try clear hcz5_0
            try clear hcz5_1
            try clear hcz5_2
            try clear hcz5_3
            try clear hcz5_4
            try clear hcz5_5
            try clear hfz5_0
            try clear hfz5_1
            try clear hfz5_2
            try clear hfz5_3
            try clear hfz5_4
            try clear hfz5_5
            try clear hx138_0
            try clear hx138_1
            try clear hx138_2
            try clear hx138_3
            try clear hx138_4
            try clear hx138_5
            try clear p138
            try clear q138
            obtain ⟨x5_2, rfl, HA, HK2, BK139, HB⟩ := hrel
            cases gk with
            | zero => exact absurd HA.out (by simp [marquetryref16_fine.l1])
            | succ k2 =>
              have H := HA.out
              clear HA
              simp only [marquetryref16_fine.l1] at H
              by_cases c6 : x5_2 < x3_1
              · rw [if_pos c6] at H
                have c6b0 : decide (x5_2 < x3_1) = true := decide_eq_true c6
                clear c6
                by_cases c7 : 0 ≤ x5_2
                · rw [if_pos c7] at H
                  have c7b0 : decide (0 ≤ x5_2) = true := decide_eq_true c7
                  clear c7
                  by_cases c8 : x5_2 < (l0.length : Int)
                  · rw [if_pos c8] at H
                    have c8b0 : decide (x5_2 < (l0.length : Int)) = true := decide_eq_true c8
                    clear c8
                    by_cases c9 : ((rd_T64 l0 x5_2).f0).toList = ((rd_T64 l0 x3_1).f0).toList
                    · rw [if_pos c9] at H
                      have c9b0 : (((rd_T64 l0 x5_2).f0).toList == ((rd_T64 l0 x3_1).f0).toList) = true := beq_iff_eq.mpr c9
                      have c9b1 : (((rd_T64 l0 x5_2).f0).toList != ((rd_T64 l0 x3_1).f0).toList) = false := bne_eq_false_iff_eq.mpr c9
                      clear c9
                      obtain rfl := Option.some.inj H
                      have p140 : 0 ≤ (x5_2 : Int) := of_decide_eq_true (by first | (with_reducible assumption) | assumption)
                      have q140 : x5_2 < (l0.length : Int) := of_decide_eq_true (by first | (with_reducible assumption) | assumption)
                      obtain ⟨ad140, A140_5, c140_5, e140, hx140_0, hx140_1, hx140_2, hx140_3, hx140_4, hx140_5, hl140_5, hi140_5⟩ := at_T64 HR0.out x5_2 p140 q140
                      obtain rfl : ad138 = ad140 := (by injection e140)
                      replace hx140_0 := (HB.out.cell (World.block_lt_of_cell? w _ hx140_0)).trans hx140_0
                      replace hx140_1 := (HB.out.cell (World.block_lt_of_cell? w _ hx140_1)).trans hx140_1
                      replace hx140_2 := (HB.out.cell (World.block_lt_of_cell? w _ hx140_2)).trans hx140_2
                      replace hx140_3 := (HB.out.cell (World.block_lt_of_cell? w _ hx140_3)).trans hx140_3
                      replace hx140_4 := (HB.out.cell (World.block_lt_of_cell? w _ hx140_4)).trans hx140_4
                      replace hx140_5 := (HB.out.cell (World.block_lt_of_cell? w _ hx140_5)).trans hx140_5
                      have HR140_5 := Aside0.mk hi140_5
                      have HC140_5 := Aside0.mk hl140_5
                      clear hi140_5 hl140_5
                      replace p140 := eq_true p140
                      replace q140 := eq_true q140
                      have hcz10_0 : wr.cell? ⟨gb139, 0, none⟩ = some (.string ((rd_T64 l0 x3_1).f0)) := (blk_cell BK139.out 0).trans rfl
                      have hcz10_1 : wr.cell? ⟨gb139, 1, none⟩ = some (.int .i64 ((rd_T64 l0 x3_1).f1)) := (blk_cell BK139.out 1).trans rfl
                      have hcz10_2 : wr.cell? ⟨gb139, 2, none⟩ = some (.bool ((rd_T64 l0 x3_1).f2)) := (blk_cell BK139.out 2).trans rfl
                      have hcz10_3 : wr.cell? ⟨gb139, 3, none⟩ = some (.int .i64 ((rd_T64 l0 x3_1).f3)) := (blk_cell BK139.out 3).trans rfl
                      have hcz10_4 : wr.cell? ⟨gb139, 4, none⟩ = some (.int .i64 ((rd_T64 l0 x3_1).f4)) := (blk_cell BK139.out 4).trans rfl
                      have hcz10_5 : wr.cell? ⟨gb139, 5, none⟩ = some (.slice A138_5 ((rd_T64 l0 x3_1).f5).length c138_5) := (blk_cell BK139.out 5).trans rfl
                      have hfz10_0 := blk_frozen BK139.out 0
                      have hfz10_1 := blk_frozen BK139.out 1
                      have hfz10_2 := blk_frozen BK139.out 2
                      have hfz10_3 := blk_frozen BK139.out 3
                      have hfz10_4 := blk_frozen BK139.out 4
                      have hfz10_5 := blk_frozen BK139.out 5
                      go_wp2
                      repeat (go_quiet (fail); try go_wp2)
                      go_ret
                      exact ⟨by first | rfl | (simp [errW_none, errW_some] <;> rfl) | (simp [*, errW_none, errW_some] <;> rfl), by repeat (first | (with_reducible first | exact HB.out | apply below_alloc | apply pw_below_drewN | apply below_drew1 | refine below_set ?_ GE139.out) | exact HB.out)⟩
                    · rw [if_neg c9] at H
                      have c9b0 : (((rd_T64 l0 x5_2).f0).toList == ((rd_T64 l0 x3_1).f0).toList) = false := beq_eq_false_iff_ne.mpr c9
                      have c9b1 : (((rd_T64 l0 x5_2).f0).toList != ((rd_T64 l0 x3_1).f0).toList) = true := bne_iff_ne.mpr c9
                      have H' := Aside0.mk H
                      clear H
                      have p140 : 0 ≤ (x5_2 : Int) := of_decide_eq_true (by first | (with_reducible assumption) | assumption)
                      have q140 : x5_2 < (l0.length : Int) := of_decide_eq_true (by first | (with_reducible assumption) | assumption)
                      obtain ⟨ad140, A140_5, c140_5, e140, hx140_0, hx140_1, hx140_2, hx140_3, hx140_4, hx140_5, hl140_5, hi140_5⟩ := at_T64 HR0.out x5_2 p140 q140
                      obtain rfl : ad138 = ad140 := (by injection e140)
                      replace hx140_0 := (HB.out.cell (World.block_lt_of_cell? w _ hx140_0)).trans hx140_0
                      replace hx140_1 := (HB.out.cell (World.block_lt_of_cell? w _ hx140_1)).trans hx140_1
                      replace hx140_2 := (HB.out.cell (World.block_lt_of_cell? w _ hx140_2)).trans hx140_2
                      replace hx140_3 := (HB.out.cell (World.block_lt_of_cell? w _ hx140_3)).trans hx140_3
                      replace hx140_4 := (HB.out.cell (World.block_lt_of_cell? w _ hx140_4)).trans hx140_4
                      replace hx140_5 := (HB.out.cell (World.block_lt_of_cell? w _ hx140_5)).trans hx140_5
                      have HR140_5 := Aside0.mk hi140_5
                      have HC140_5 := Aside0.mk hl140_5
                      clear hi140_5 hl140_5
                      replace p140 := eq_true p140
                      replace q140 := eq_true q140
                      have hcz11_0 : wr.cell? ⟨gb139, 0, none⟩ = some (.string ((rd_T64 l0 x3_1).f0)) := (blk_cell BK139.out 0).trans rfl
                      have hcz11_1 : wr.cell? ⟨gb139, 1, none⟩ = some (.int .i64 ((rd_T64 l0 x3_1).f1)) := (blk_cell BK139.out 1).trans rfl
                      have hcz11_2 : wr.cell? ⟨gb139, 2, none⟩ = some (.bool ((rd_T64 l0 x3_1).f2)) := (blk_cell BK139.out 2).trans rfl
                      have hcz11_3 : wr.cell? ⟨gb139, 3, none⟩ = some (.int .i64 ((rd_T64 l0 x3_1).f3)) := (blk_cell BK139.out 3).trans rfl
                      have hcz11_4 : wr.cell? ⟨gb139, 4, none⟩ = some (.int .i64 ((rd_T64 l0 x3_1).f4)) := (blk_cell BK139.out 4).trans rfl
                      have hcz11_5 : wr.cell? ⟨gb139, 5, none⟩ = some (.slice A138_5 ((rd_T64 l0 x3_1).f5).length c138_5) := (blk_cell BK139.out 5).trans rfl
                      have hfz11_0 := blk_frozen BK139.out 0
                      have hfz11_1 := blk_frozen BK139.out 1
                      have hfz11_2 := blk_frozen BK139.out 2
                      have hfz11_3 := blk_frozen BK139.out 3
                      have hfz11_4 := blk_frozen BK139.out 4
                      have hfz11_5 := blk_frozen BK139.out 5
                      go_wp2
                      repeat (go_quiet (fail); try go_wp2)
                      go_roundg k2
                      case measure => have := HK1.out; have := HK2.out; omega
                      case rel => exact ⟨(wrap64 (x5_2 + 1)), (by first | rfl | (simp; done) | (simp [*]; done)), H', ⟨by have := HK1.out; have := HK2.out; omega⟩, ⟨by (with_reducible repeat (first | refine blk_drewN ?_ _ | refine blk_drew ?_ | refine blk_alloc ?_ _)); exact BK139.out⟩, ⟨by repeat (first | (with_reducible first | exact HB.out | apply below_alloc | apply pw_below_drewN | apply below_drew1 | refine below_set ?_ GE139.out) | exact HB.out)⟩⟩
                  · rw [if_neg c8] at H
                    exact absurd H (by simp)
                · rw [if_neg c7] at H
                  exact absurd H (by simp)
              · rw [if_neg c6] at H
                have c6b0 : decide (x5_2 < x3_1) = false := decide_eq_false c6
                clear c6
                have HC12 := Aside0.mk H
                clear H
                go_upto_region 10 with (fail)
                repeat (go_quiet (fail); go_upto_region 10 with (fail))
                go_cut [42] (fun v42 wc => ∃ (kq : Nat) (x42_11 : Bool), v42 = .bool x42_11 ∧ Aside0 (marquetryref16_fine.j2 kq l0 x3_1 x42_11 ((rd_T64 l0 x3_1).f0) ((rd_T64 l0 x3_1).f1) ((rd_T64 l0 x3_1).f2) ((rd_T64 l0 x3_1).f3) ((rd_T64 l0 x3_1).f4) ((rd_T64 l0 x3_1).f5) = some r) ∧ Aside0 (kq ≤ k2) ∧ Aside0 (wc.heap[gb139]? = some (.cells #[.string ((rd_T64 l0 x3_1).f0), .int .i64 ((rd_T64 l0 x3_1).f1), .bool ((rd_T64 l0 x3_1).f2), .int .i64 ((rd_T64 l0 x3_1).f3), .int .i64 ((rd_T64 l0 x3_1).f4), (.slice A138_5 ((rd_T64 l0 x3_1).f5).length c138_5)] 64 (0, 0))) ∧ Aside0 (Below w.heap.size w wc))
                case first =>
                  have H := HC12.out
                  clear HC12
                  replace H := Option.bind_eq_some_iff.mp H
                  obtain ⟨t141, A130, H⟩ := H
                  replace H : (if t141 = true then (if ((rd_T64 l0 x3_1).f1) < 0 then (marquetryref16_fine.j2 k2 l0 x3_1 true ((rd_T64 l0 x3_1).f0) ((rd_T64 l0 x3_1).f1) ((rd_T64 l0 x3_1).f2) ((rd_T64 l0 x3_1).f3) ((rd_T64 l0 x3_1).f4) ((rd_T64 l0 x3_1).f5)) else (marquetryref16_fine.j2 k2 l0 x3_1 (decide (((rd_T64 l0 x3_1).f1) > 2)) ((rd_T64 l0 x3_1).f0) ((rd_T64 l0 x3_1).f1) ((rd_T64 l0 x3_1).f2) ((rd_T64 l0 x3_1).f3) ((rd_T64 l0 x3_1).f4) ((rd_T64 l0 x3_1).f5))) else (marquetryref16_fine.j2 k2 l0 x3_1 true ((rd_T64 l0 x3_1).f0) ((rd_T64 l0 x3_1).f1) ((rd_T64 l0 x3_1).f2) ((rd_T64 l0 x3_1).f3) ((rd_T64 l0 x3_1).f4) ((rd_T64 l0 x3_1).f5))) = some r := H
                  have A13 := Aside0.mk A130
                  clear A130
                  by_cases c14 : t141 = true
                  · subst c14
                    have H1 : (if ((rd_T64 l0 x3_1).f1) < 0 then (marquetryref16_fine.j2 k2 l0 x3_1 true ((rd_T64 l0 x3_1).f0) ((rd_T64 l0 x3_1).f1) ((rd_T64 l0 x3_1).f2) ((rd_T64 l0 x3_1).f3) ((rd_T64 l0 x3_1).f4) ((rd_T64 l0 x3_1).f5)) else (marquetryref16_fine.j2 k2 l0 x3_1 (decide (((rd_T64 l0 x3_1).f1) > 2)) ((rd_T64 l0 x3_1).f0) ((rd_T64 l0 x3_1).f1) ((rd_T64 l0 x3_1).f2) ((rd_T64 l0 x3_1).f3) ((rd_T64 l0 x3_1).f4) ((rd_T64 l0 x3_1).f5))) = some r := by rw [if_pos rfl] at H; exact H
                    clear H
                    have H := H1
                    clear H1
                    by_cases c15 : ((rd_T64 l0 x3_1).f1) < 0
                    · rw [if_pos c15] at H
                      have c15b0 : decide (((rd_T64 l0 x3_1).f1) < 0) = true := decide_eq_true c15
                      clear c15
                      (first | rw [c15b0] | (simp only [i64_w, i32_w]; rw [c15b0]) | skip)
                      have H' := Aside0.mk H
                      clear H
                      have hcz16_0 : wr.cell? ⟨gb139, 0, none⟩ = some (.string ((rd_T64 l0 x3_1).f0)) := (blk_cell BK139.out 0).trans rfl
                      have hcz16_1 : wr.cell? ⟨gb139, 1, none⟩ = some (.int .i64 ((rd_T64 l0 x3_1).f1)) := (blk_cell BK139.out 1).trans rfl
                      have hcz16_2 : wr.cell? ⟨gb139, 2, none⟩ = some (.bool ((rd_T64 l0 x3_1).f2)) := (blk_cell BK139.out 2).trans rfl
                      have hcz16_3 : wr.cell? ⟨gb139, 3, none⟩ = some (.int .i64 ((rd_T64 l0 x3_1).f3)) := (blk_cell BK139.out 3).trans rfl
                      have hcz16_4 : wr.cell? ⟨gb139, 4, none⟩ = some (.int .i64 ((rd_T64 l0 x3_1).f4)) := (blk_cell BK139.out 4).trans rfl
                      have hcz16_5 : wr.cell? ⟨gb139, 5, none⟩ = some (.slice A138_5 ((rd_T64 l0 x3_1).f5).length c138_5) := (blk_cell BK139.out 5).trans rfl
                      have hfz16_0 := blk_frozen BK139.out 0
                      have hfz16_1 := blk_frozen BK139.out 1
                      have hfz16_2 := blk_frozen BK139.out 2
                      have hfz16_3 := blk_frozen BK139.out 3
                      have hfz16_4 := blk_frozen BK139.out 4
                      have hfz16_5 := blk_frozen BK139.out 5
                      go_wp2_with (first | (go_at_call 48; (with_reducible refine (marquetryref16_named.calls k2 ((rd_T64 l0 x3_1).f0) true _ A13.out).mono ?_); rintro e w' ⟨rfl, ⟨nd, rfl⟩⟩; (try first | exact ⟨rfl, _, World.drewN_drewN _ _ _⟩ | exact ⟨rfl, _, Eq.trans (World.drewN_drewN _ _ _) (congrArg (World.drewN _) (Nat.add_assoc _ _ _))⟩)))
                      repeat (go_quiet (first | (go_at_call 48; (with_reducible refine (marquetryref16_named.calls k2 ((rd_T64 l0 x3_1).f0) true _ A13.out).mono ?_); rintro e w' ⟨rfl, ⟨nd, rfl⟩⟩; (try first | exact ⟨rfl, _, World.drewN_drewN _ _ _⟩ | exact ⟨rfl, _, Eq.trans (World.drewN_drewN _ _ _) (congrArg (World.drewN _) (Nat.add_assoc _ _ _))⟩))); try go_wp2_with (first | (go_at_call 48; (with_reducible refine (marquetryref16_named.calls k2 ((rd_T64 l0 x3_1).f0) true _ A13.out).mono ?_); rintro e w' ⟨rfl, ⟨nd, rfl⟩⟩; (try first | exact ⟨rfl, _, World.drewN_drewN _ _ _⟩ | exact ⟨rfl, _, Eq.trans (World.drewN_drewN _ _ _) (congrArg (World.drewN _) (Nat.add_assoc _ _ _))⟩))))
                      go_meet
                      case rel => exact ⟨_, (true), (by first | rfl | (simp; done) | (simp [*]; done)), H', ⟨by have := HK1.out; have := HK2.out; first | omega | exact Nat.le_refl _⟩, ⟨by (with_reducible repeat (first | refine blk_drewN ?_ _ | refine blk_drew ?_ | refine blk_alloc ?_ _)); exact BK139.out⟩, ⟨by repeat (first | (with_reducible first | exact HB.out | apply below_alloc | apply pw_below_drewN | apply below_drew1 | refine below_set ?_ GE139.out) | exact HB.out)⟩⟩
                    · rw [if_neg c15] at H
                      have c15b0 : decide (((rd_T64 l0 x3_1).f1) < 0) = false := decide_eq_false c15
                      clear c15
                      (first | rw [c15b0] | (simp only [i64_w, i32_w]; rw [c15b0]) | skip)
                      have H' := Aside0.mk H
                      clear H
                      have hcz17_0 : wr.cell? ⟨gb139, 0, none⟩ = some (.string ((rd_T64 l0 x3_1).f0)) := (blk_cell BK139.out 0).trans rfl
                      have hcz17_1 : wr.cell? ⟨gb139, 1, none⟩ = some (.int .i64 ((rd_T64 l0 x3_1).f1)) := (blk_cell BK139.out 1).trans rfl
                      have hcz17_2 : wr.cell? ⟨gb139, 2, none⟩ = some (.bool ((rd_T64 l0 x3_1).f2)) := (blk_cell BK139.out 2).trans rfl
                      have hcz17_3 : wr.cell? ⟨gb139, 3, none⟩ = some (.int .i64 ((rd_T64 l0 x3_1).f3)) := (blk_cell BK139.out 3).trans rfl
                      have hcz17_4 : wr.cell? ⟨gb139, 4, none⟩ = some (.int .i64 ((rd_T64 l0 x3_1).f4)) := (blk_cell BK139.out 4).trans rfl
                      have hcz17_5 : wr.cell? ⟨gb139, 5, none⟩ = some (.slice A138_5 ((rd_T64 l0 x3_1).f5).length c138_5) := (blk_cell BK139.out 5).trans rfl
                      have hfz17_0 := blk_frozen BK139.out 0
                      have hfz17_1 := blk_frozen BK139.out 1
                      have hfz17_2 := blk_frozen BK139.out 2
                      have hfz17_3 := blk_frozen BK139.out 3
                      have hfz17_4 := blk_frozen BK139.out 4
                      have hfz17_5 := blk_frozen BK139.out 5
                      go_wp2_with (first | (go_at_call 48; (with_reducible refine (marquetryref16_named.calls k2 ((rd_T64 l0 x3_1).f0) true _ A13.out).mono ?_); rintro e w' ⟨rfl, ⟨nd, rfl⟩⟩; (try first | exact ⟨rfl, _, World.drewN_drewN _ _ _⟩ | exact ⟨rfl, _, Eq.trans (World.drewN_drewN _ _ _) (congrArg (World.drewN _) (Nat.add_assoc _ _ _))⟩)))
                      repeat (go_quiet (first | (go_at_call 48; (with_reducible refine (marquetryref16_named.calls k2 ((rd_T64 l0 x3_1).f0) true _ A13.out).mono ?_); rintro e w' ⟨rfl, ⟨nd, rfl⟩⟩; (try first | exact ⟨rfl, _, World.drewN_drewN _ _ _⟩ | exact ⟨rfl, _, Eq.trans (World.drewN_drewN _ _ _) (congrArg (World.drewN _) (Nat.add_assoc _ _ _))⟩))); try go_wp2_with (first | (go_at_call 48; (with_reducible refine (marquetryref16_named.calls k2 ((rd_T64 l0 x3_1).f0) true _ A13.out).mono ?_); rintro e w' ⟨rfl, ⟨nd, rfl⟩⟩; (try first | exact ⟨rfl, _, World.drewN_drewN _ _ _⟩ | exact ⟨rfl, _, Eq.trans (World.drewN_drewN _ _ _) (congrArg (World.drewN _) (Nat.add_assoc _ _ _))⟩))))
                      go_meet
                      case rel => exact ⟨_, (decide (((rd_T64 l0 x3_1).f1) > 2)), (by first | rfl | (simp; done) | (simp [*]; done)), H', ⟨by have := HK1.out; have := HK2.out; first | omega | exact Nat.le_refl _⟩, ⟨by (with_reducible repeat (first | refine blk_drewN ?_ _ | refine blk_drew ?_ | refine blk_alloc ?_ _)); exact BK139.out⟩, ⟨by repeat (first | (with_reducible first | exact HB.out | apply below_alloc | apply pw_below_drewN | apply below_drew1 | refine below_set ?_ GE139.out) | exact HB.out)⟩⟩
                  · replace c14 := Bool.eq_false_iff.mpr c14
                    subst c14
                    have H1 : (marquetryref16_fine.j2 k2 l0 x3_1 true ((rd_T64 l0 x3_1).f0) ((rd_T64 l0 x3_1).f1) ((rd_T64 l0 x3_1).f2) ((rd_T64 l0 x3_1).f3) ((rd_T64 l0 x3_1).f4) ((rd_T64 l0 x3_1).f5)) = some r := by rw [if_neg (show ¬ (false = true) by decide)] at H; exact H
                    clear H
                    have H := H1
                    clear H1
                    have H' := Aside0.mk H
                    clear H
                    have hcz18_0 : wr.cell? ⟨gb139, 0, none⟩ = some (.string ((rd_T64 l0 x3_1).f0)) := (blk_cell BK139.out 0).trans rfl
                    have hcz18_1 : wr.cell? ⟨gb139, 1, none⟩ = some (.int .i64 ((rd_T64 l0 x3_1).f1)) := (blk_cell BK139.out 1).trans rfl
                    have hcz18_2 : wr.cell? ⟨gb139, 2, none⟩ = some (.bool ((rd_T64 l0 x3_1).f2)) := (blk_cell BK139.out 2).trans rfl
                    have hcz18_3 : wr.cell? ⟨gb139, 3, none⟩ = some (.int .i64 ((rd_T64 l0 x3_1).f3)) := (blk_cell BK139.out 3).trans rfl
                    have hcz18_4 : wr.cell? ⟨gb139, 4, none⟩ = some (.int .i64 ((rd_T64 l0 x3_1).f4)) := (blk_cell BK139.out 4).trans rfl
                    have hcz18_5 : wr.cell? ⟨gb139, 5, none⟩ = some (.slice A138_5 ((rd_T64 l0 x3_1).f5).length c138_5) := (blk_cell BK139.out 5).trans rfl
                    have hfz18_0 := blk_frozen BK139.out 0
                    have hfz18_1 := blk_frozen BK139.out 1
                    have hfz18_2 := blk_frozen BK139.out 2
                    have hfz18_3 := blk_frozen BK139.out 3
                    have hfz18_4 := blk_frozen BK139.out 4
                    have hfz18_5 := blk_frozen BK139.out 5
                    go_wp2_with (first | (go_at_call 48; (with_reducible refine (marquetryref16_named.calls k2 ((rd_T64 l0 x3_1).f0) false _ A13.out).mono ?_); rintro e w' ⟨rfl, ⟨nd, rfl⟩⟩; (try first | exact ⟨rfl, _, World.drewN_drewN _ _ _⟩ | exact ⟨rfl, _, Eq.trans (World.drewN_drewN _ _ _) (congrArg (World.drewN _) (Nat.add_assoc _ _ _))⟩)))
                    repeat (go_quiet (first | (go_at_call 48; (with_reducible refine (marquetryref16_named.calls k2 ((rd_T64 l0 x3_1).f0) false _ A13.out).mono ?_); rintro e w' ⟨rfl, ⟨nd, rfl⟩⟩; (try first | exact ⟨rfl, _, World.drewN_drewN _ _ _⟩ | exact ⟨rfl, _, Eq.trans (World.drewN_drewN _ _ _) (congrArg (World.drewN _) (Nat.add_assoc _ _ _))⟩))); try go_wp2_with (first | (go_at_call 48; (with_reducible refine (marquetryref16_named.calls k2 ((rd_T64 l0 x3_1).f0) false _ A13.out).mono ?_); rintro e w' ⟨rfl, ⟨nd, rfl⟩⟩; (try first | exact ⟨rfl, _, World.drewN_drewN _ _ _⟩ | exact ⟨rfl, _, Eq.trans (World.drewN_drewN _ _ _) (congrArg (World.drewN _) (Nat.add_assoc _ _ _))⟩))))
                    go_meet
                    case rel => exact ⟨_, (true), (by first | rfl | (simp; done) | (simp [*]; done)), H', ⟨by have := HK1.out; have := HK2.out; first | omega | exact Nat.le_refl _⟩, ⟨by (with_reducible repeat (first | refine blk_drewN ?_ _ | refine blk_drew ?_ | refine blk_alloc ?_ _)); exact BK139.out⟩, ⟨by repeat (first | (with_reducible first | exact HB.out | apply below_alloc | apply pw_below_drewN | apply below_drew1 | refine below_set ?_ GE139.out) | exact HB.out)⟩⟩
                case rest =>
                  clear HC12
                  try clear c1
                  try clear p1
                  try clear q1
                  try clear hx1
                  try clear c2
                  try clear c2b0
                  try clear p2
                  try clear c3
                  try clear c3b0
                  try clear c5
                  try clear c6
                  try clear c6b0
                  try clear p6
                  try clear c7
                  try clear c7b0
                  try clear c8
                  try clear c8b0
                  try clear c9
                  try clear c9b0
                  try clear c9b1
                  try clear c13
                  try clear p13
                  try clear q13
                  try clear hx13
                  try clear c14
                  try clear p14
                  try clear q14
                  try clear hx14
                  try clear c15
                  try clear c15b0
                  try clear hcz10_0
                  try clear hcz10_1
                  try clear hcz10_2
                  try clear hcz10_3
                  try clear hcz10_4
                  try clear hcz10_5
                  try clear hcz11_0
                  try clear hcz11_1
                  try clear hcz11_2
                  try clear hcz11_3
                  try clear hcz11_4
                  try clear hcz11_5
                  try clear hcz16_0
                  try clear hcz16_1
                  try clear hcz16_2
                  try clear hcz16_3
                  try clear hcz16_4
                  try clear hcz16_5
                  try clear hcz17_0
                  try clear hcz17_1
                  try clear hcz17_2
                  try clear hcz17_3
                  try clear hcz17_4
                  try clear hcz17_5
                  try clear hcz18_0
                  try clear hcz18_1
                  try clear hcz18_2
                  try clear hcz18_3
                  try clear hcz18_4
                  try clear hcz18_5
                  try clear hcz5_0
                  try clear hcz5_1
                  try clear hcz5_2
                  try clear hcz5_3
                  try clear hcz5_4
                  try clear hcz5_5
                  try clear hfz10_0
                  try clear hfz10_1
                  try clear hfz10_2
                  try clear hfz10_3
                  try clear hfz10_4
                  try clear hfz10_5
                  try clear hfz11_0
                  try clear hfz11_1
                  try clear hfz11_2
                  try clear hfz11_3
                  try clear hfz11_4
                  try clear hfz11_5
                  try clear hfz16_0
                  try clear hfz16_1
                  try clear hfz16_2
                  try clear hfz16_3
                  try clear hfz16_4
                  try clear hfz16_5
                  try clear hfz17_0
                  try clear hfz17_1
                  try clear hfz17_2
                  try clear hfz17_3
                  try clear hfz17_4
                  try clear hfz17_5
                  try clear hfz18_0
                  try clear hfz18_1
                  try clear hfz18_2
                  try clear hfz18_3
                  try clear hfz18_4
                  try clear hfz18_5
                  try clear hfz5_0
                  try clear hfz5_1
                  try clear hfz5_2
                  try clear hfz5_3
                  try clear hfz5_4
                  try clear hfz5_5
                  try clear hx138_0
                  try clear hx138_1
                  try clear hx138_2
                  try clear hx138_3
                  try clear hx138_4
                  try clear hx138_5
                  try clear hx140_0
                  try clear hx140_1
                  try clear hx140_2
                  try clear hx140_3
                  try clear hx140_4
                  try clear hx140_5
                  try clear p1
                  try clear p138
                  try clear p140
                  try clear p2
                  try clear q1
                  try clear q138
                  try clear q140
                  obtain ⟨kq, x42_11, rfl, HA, HJ11, BK139, HB⟩ := hcut
                  cases kq with
                  | zero => exact absurd HA.out (by simp [marquetryref16_fine.j2])
                  | succ kj11 =>
                    have H := HA.out
                    clear HA
                    simp only [marquetryref16_fine.j2] at H
                    by_cases c19 : x42_11 = true
                    · subst c19
                      have H1 : (some false) = some r := by rw [if_pos rfl] at H; exact H
                      clear H
                      have H := H1
                      clear H1
                      obtain rfl := Option.some.inj H
                      go_wp2
                      repeat (go_quiet (fail); try go_wp2)
                      go_ret
                      exact ⟨by first | rfl | (simp [errW_none, errW_some] <;> rfl) | (simp [*, errW_none, errW_some] <;> rfl), by repeat (first | (with_reducible first | exact HB.out | apply below_alloc | apply pw_below_drewN | apply below_drew1 | refine below_set ?_ GE139.out) | exact HB.out)⟩
                    · replace c19 := Bool.eq_false_iff.mpr c19
                      subst c19
                      have H1 : (if ((rd_T64 l0 x3_1).f2) = true then (if (((rd_T64 l0 x3_1).f5).length : Int) = 0 then (marquetryref16_fine.j3 kj11 l0 x3_1 true ((rd_T64 l0 x3_1).f0) ((rd_T64 l0 x3_1).f1) ((rd_T64 l0 x3_1).f2) ((rd_T64 l0 x3_1).f3) ((rd_T64 l0 x3_1).f4) ((rd_T64 l0 x3_1).f5)) else (if ((rd_T64 l0 x3_1).f3) = 0 then (if ((rd_T64 l0 x3_1).f4) = 0 then ((marquetryref16_fine.f kj11 ((rd_T64 l0 x3_1).f5)).bind fun t142 => (marquetryref16_fine.j3 kj11 l0 x3_1 (!t142) ((rd_T64 l0 x3_1).f0) ((rd_T64 l0 x3_1).f1) ((rd_T64 l0 x3_1).f2) ((rd_T64 l0 x3_1).f3) ((rd_T64 l0 x3_1).f4) ((rd_T64 l0 x3_1).f5))) else (marquetryref16_fine.j3 kj11 l0 x3_1 true ((rd_T64 l0 x3_1).f0) ((rd_T64 l0 x3_1).f1) ((rd_T64 l0 x3_1).f2) ((rd_T64 l0 x3_1).f3) ((rd_T64 l0 x3_1).f4) ((rd_T64 l0 x3_1).f5))) else (marquetryref16_fine.j3 kj11 l0 x3_1 true ((rd_T64 l0 x3_1).f0) ((rd_T64 l0 x3_1).f1) ((rd_T64 l0 x3_1).f2) ((rd_T64 l0 x3_1).f3) ((rd_T64 l0 x3_1).f4) ((rd_T64 l0 x3_1).f5)))) else (marquetryref16_fine.j3 kj11 l0 x3_1 false ((rd_T64 l0 x3_1).f0) ((rd_T64 l0 x3_1).f1) ((rd_T64 l0 x3_1).f2) ((rd_T64 l0 x3_1).f3) ((rd_T64 l0 x3_1).f4) ((rd_T64 l0 x3_1).f5))) = some r := by rw [if_neg (show ¬ (false = true) by decide)] at H; exact H
                      clear H
                      have H := H1
                      clear H1
                      have HC20 := Aside0.mk H
                      clear H
                      go_upto_region 12 with (fail)
                      repeat (go_quiet (fail); go_upto_region 12 with (fail))
                      go_cut [66] (fun v66 wc => ∃ (kq : Nat) (x66_19 : Bool), v66 = .bool x66_19 ∧ Aside0 (marquetryref16_fine.j3 kq l0 x3_1 x66_19 ((rd_T64 l0 x3_1).f0) ((rd_T64 l0 x3_1).f1) ((rd_T64 l0 x3_1).f2) ((rd_T64 l0 x3_1).f3) ((rd_T64 l0 x3_1).f4) ((rd_T64 l0 x3_1).f5) = some r) ∧ Aside0 (kq ≤ kj11) ∧ Aside0 (wc.heap[gb139]? = some (.cells #[.string ((rd_T64 l0 x3_1).f0), .int .i64 ((rd_T64 l0 x3_1).f1), .bool ((rd_T64 l0 x3_1).f2), .int .i64 ((rd_T64 l0 x3_1).f3), .int .i64 ((rd_T64 l0 x3_1).f4), (.slice A138_5 ((rd_T64 l0 x3_1).f5).length c138_5)] 64 (0, 0))) ∧ Aside0 (Below w.heap.size w wc))
                      case first =>
                        have H := HC20.out
                        clear HC20
                        by_cases c21 : ((rd_T64 l0 x3_1).f2) = true
                        · rw [if_pos c21] at H
                          have c21b0 : ((rd_T64 l0 x3_1).f2) = true := c21
                          clear c21
                          (first | rw [c21b0] | (simp only [i64_w, i32_w]; rw [c21b0]) | skip)
                          by_cases c22 : (((rd_T64 l0 x3_1).f5).length : Int) = 0
                          · rw [if_pos c22] at H
                            have c22b0 : ((((rd_T64 l0 x3_1).f5).length : Int) == 0) = true := beq_iff_eq.mpr c22
                            have c22b1 : ((((rd_T64 l0 x3_1).f5).length : Int) != 0) = false := bne_eq_false_iff_eq.mpr c22
                            clear c22
                            have H' := Aside0.mk H
                            clear H
                            have hcz23_0 : wc.cell? ⟨gb139, 0, none⟩ = some (.string ((rd_T64 l0 x3_1).f0)) := (blk_cell BK139.out 0).trans rfl
                            have hcz23_1 : wc.cell? ⟨gb139, 1, none⟩ = some (.int .i64 ((rd_T64 l0 x3_1).f1)) := (blk_cell BK139.out 1).trans rfl
                            have hcz23_2 : wc.cell? ⟨gb139, 2, none⟩ = some (.bool ((rd_T64 l0 x3_1).f2)) := (blk_cell BK139.out 2).trans rfl
                            have hcz23_3 : wc.cell? ⟨gb139, 3, none⟩ = some (.int .i64 ((rd_T64 l0 x3_1).f3)) := (blk_cell BK139.out 3).trans rfl
                            have hcz23_4 : wc.cell? ⟨gb139, 4, none⟩ = some (.int .i64 ((rd_T64 l0 x3_1).f4)) := (blk_cell BK139.out 4).trans rfl
                            have hcz23_5 : wc.cell? ⟨gb139, 5, none⟩ = some (.slice A138_5 ((rd_T64 l0 x3_1).f5).length c138_5) := (blk_cell BK139.out 5).trans rfl
                            have hfz23_0 := blk_frozen BK139.out 0
                            have hfz23_1 := blk_frozen BK139.out 1
                            have hfz23_2 := blk_frozen BK139.out 2
                            have hfz23_3 := blk_frozen BK139.out 3
                            have hfz23_4 := blk_frozen BK139.out 4
                            have hfz23_5 := blk_frozen BK139.out 5
                            go_wp2
                            repeat (go_quiet (fail); try go_wp2)
                            go_meet
                            case rel => exact ⟨_, (true), (by first | rfl | (simp; done) | (simp [*]; done)), H', ⟨by have := HK1.out; have := HK2.out; have := HJ11.out; first | omega | exact Nat.le_refl _⟩, ⟨by (with_reducible repeat (first | refine blk_drewN ?_ _ | refine blk_drew ?_ | refine blk_alloc ?_ _)); exact BK139.out⟩, ⟨by repeat (first | (with_reducible first | exact HB.out | apply below_alloc | apply pw_below_drewN | apply below_drew1 | refine below_set ?_ GE139.out) | exact HB.out)⟩⟩
                          · rw [if_neg c22] at H
                            have c22b0 : ((((rd_T64 l0 x3_1).f5).length : Int) == 0) = false := beq_eq_false_iff_ne.mpr c22
                            have c22b1 : ((((rd_T64 l0 x3_1).f5).length : Int) != 0) = true := bne_iff_ne.mpr c22
                            have c22b2 : ¬ (((rd_T64 l0 x3_1).f5) = []) := fun h_ => c22 (by rw [h_]; rfl)
                            by_cases c24 : ((rd_T64 l0 x3_1).f3) = 0
                            · rw [if_pos c24] at H
                              have c24b0 : (((rd_T64 l0 x3_1).f3) == 0) = true := beq_iff_eq.mpr c24
                              have c24b1 : (((rd_T64 l0 x3_1).f3) != 0) = false := bne_eq_false_iff_eq.mpr c24
                              clear c24
                              by_cases c25 : ((rd_T64 l0 x3_1).f4) = 0
                              · rw [if_pos c25] at H
                                have c25b0 : (((rd_T64 l0 x3_1).f4) == 0) = true := beq_iff_eq.mpr c25
                                have c25b1 : (((rd_T64 l0 x3_1).f4) != 0) = false := bne_eq_false_iff_eq.mpr c25
                                clear c25
                                replace H := Option.bind_eq_some_iff.mp H
                                obtain ⟨t142, A260, H⟩ := H
                                replace H : (marquetryref16_fine.j3 kj11 l0 x3_1 (!t142) ((rd_T64 l0 x3_1).f0) ((rd_T64 l0 x3_1).f1) ((rd_T64 l0 x3_1).f2) ((rd_T64 l0 x3_1).f3) ((rd_T64 l0 x3_1).f4) ((rd_T64 l0 x3_1).f5)) = some r := H
                                have A26 := Aside0.mk A260
                                clear A260
                                have H' := Aside0.mk H
                                clear H
                                have hcz27_0 : wc.cell? ⟨gb139, 0, none⟩ = some (.string ((rd_T64 l0 x3_1).f0)) := (blk_cell BK139.out 0).trans rfl
                                have hcz27_1 : wc.cell? ⟨gb139, 1, none⟩ = some (.int .i64 ((rd_T64 l0 x3_1).f1)) := (blk_cell BK139.out 1).trans rfl
                                have hcz27_2 : wc.cell? ⟨gb139, 2, none⟩ = some (.bool ((rd_T64 l0 x3_1).f2)) := (blk_cell BK139.out 2).trans rfl
                                have hcz27_3 : wc.cell? ⟨gb139, 3, none⟩ = some (.int .i64 ((rd_T64 l0 x3_1).f3)) := (blk_cell BK139.out 3).trans rfl
                                have hcz27_4 : wc.cell? ⟨gb139, 4, none⟩ = some (.int .i64 ((rd_T64 l0 x3_1).f4)) := (blk_cell BK139.out 4).trans rfl
                                have hcz27_5 : wc.cell? ⟨gb139, 5, none⟩ = some (.slice A138_5 ((rd_T64 l0 x3_1).f5).length c138_5) := (blk_cell BK139.out 5).trans rfl
                                have hfz27_0 := blk_frozen BK139.out 0
                                have hfz27_1 := blk_frozen BK139.out 1
                                have hfz27_2 := blk_frozen BK139.out 2
                                have hfz27_3 := blk_frozen BK139.out 3
                                have hfz27_4 := blk_frozen BK139.out 4
                                have hfz27_5 := blk_frozen BK139.out 5
                                go_wp2_with (first | (go_at_call 50; (with_reducible refine (ih kj11 (by have := HK1.out; have := HK2.out; have := HJ11.out; omega) _ _ ((rd_T64 l0 x3_1).f5) t142 _ ?side1 ?side2 A26.out).mono ?_); (case side1 => repeat (first | exact (Kd.C_below HR138_5.out HB.out) | (with_reducible refine Kd.C_alloc ?_ _) | (with_reducible refine Kd.C_drewN ?_ _) | (with_reducible refine Kd.C_drew ?_))); (case side2 => exact HC138_5.out); rintro e w28 ⟨rfl, hb⟩; have n0_ := Aside0.mk (blk_below (g := gb139) (o := .cells #[.string ((rd_T64 l0 x3_1).f0), .int .i64 ((rd_T64 l0 x3_1).f1), .bool ((rd_T64 l0 x3_1).f2), .int .i64 ((rd_T64 l0 x3_1).f3), .int .i64 ((rd_T64 l0 x3_1).f4), .slice A138_5 ((rd_T64 l0 x3_1).f5).length c138_5] 64 (0, 0)) (by (with_reducible repeat (first | refine blk_drewN ?_ _ | refine blk_drew ?_ | refine blk_alloc ?_ _)); exact BK139.out) hb); have n1_ := Aside0.mk (below_step (by repeat (first | (with_reducible first | exact HB.out | apply below_alloc | apply pw_below_drewN | apply below_drew1 | refine below_set ?_ GE139.out) | exact HB.out)) hb); clear BK139; clear HB; have BK139 := n0_; have HB := n1_; clear n0_ n1_; (try clear hb); (try clear hb2); (try clear hk); (try clear hi)))
                                repeat (go_quiet (first | (go_at_call 50; (with_reducible refine (ih kj11 (by have := HK1.out; have := HK2.out; have := HJ11.out; omega) _ _ ((rd_T64 l0 x3_1).f5) t142 _ ?side1 ?side2 A26.out).mono ?_); (case side1 => repeat (first | exact (Kd.C_below HR138_5.out HB.out) | (with_reducible refine Kd.C_alloc ?_ _) | (with_reducible refine Kd.C_drewN ?_ _) | (with_reducible refine Kd.C_drew ?_))); (case side2 => exact HC138_5.out); rintro e w28 ⟨rfl, hb⟩; have n0_ := Aside0.mk (blk_below (g := gb139) (o := .cells #[.string ((rd_T64 l0 x3_1).f0), .int .i64 ((rd_T64 l0 x3_1).f1), .bool ((rd_T64 l0 x3_1).f2), .int .i64 ((rd_T64 l0 x3_1).f3), .int .i64 ((rd_T64 l0 x3_1).f4), .slice A138_5 ((rd_T64 l0 x3_1).f5).length c138_5] 64 (0, 0)) (by (with_reducible repeat (first | refine blk_drewN ?_ _ | refine blk_drew ?_ | refine blk_alloc ?_ _)); exact BK139.out) hb); have n1_ := Aside0.mk (below_step (by repeat (first | (with_reducible first | exact HB.out | apply below_alloc | apply pw_below_drewN | apply below_drew1 | refine below_set ?_ GE139.out) | exact HB.out)) hb); clear BK139; clear HB; have BK139 := n0_; have HB := n1_; clear n0_ n1_; (try clear hb); (try clear hb2); (try clear hk); (try clear hi))); try go_wp2_with (first | (go_at_call 50; (with_reducible refine (ih kj11 (by have := HK1.out; have := HK2.out; have := HJ11.out; omega) _ _ ((rd_T64 l0 x3_1).f5) t142 _ ?side1 ?side2 A26.out).mono ?_); (case side1 => repeat (first | exact (Kd.C_below HR138_5.out HB.out) | (with_reducible refine Kd.C_alloc ?_ _) | (with_reducible refine Kd.C_drewN ?_ _) | (with_reducible refine Kd.C_drew ?_))); (case side2 => exact HC138_5.out); rintro e w28 ⟨rfl, hb⟩; have n0_ := Aside0.mk (blk_below (g := gb139) (o := .cells #[.string ((rd_T64 l0 x3_1).f0), .int .i64 ((rd_T64 l0 x3_1).f1), .bool ((rd_T64 l0 x3_1).f2), .int .i64 ((rd_T64 l0 x3_1).f3), .int .i64 ((rd_T64 l0 x3_1).f4), .slice A138_5 ((rd_T64 l0 x3_1).f5).length c138_5] 64 (0, 0)) (by (with_reducible repeat (first | refine blk_drewN ?_ _ | refine blk_drew ?_ | refine blk_alloc ?_ _)); exact BK139.out) hb); have n1_ := Aside0.mk (below_step (by repeat (first | (with_reducible first | exact HB.out | apply below_alloc | apply pw_below_drewN | apply below_drew1 | refine below_set ?_ GE139.out) | exact HB.out)) hb); clear BK139; clear HB; have BK139 := n0_; have HB := n1_; clear n0_ n1_; (try clear hb); (try clear hb2); (try clear hk); (try clear hi))))
                                go_meet
                                case rel => exact ⟨_, (!t142), (by first | rfl | (simp; done) | (simp [*]; done)), H', ⟨by have := HK1.out; have := HK2.out; have := HJ11.out; first | omega | exact Nat.le_refl _⟩, ⟨by (with_reducible repeat (first | refine blk_drewN ?_ _ | refine blk_drew ?_ | refine blk_alloc ?_ _)); exact BK139.out⟩, ⟨by repeat (first | (with_reducible first | exact HB.out | apply below_alloc | apply pw_below_drewN | apply below_drew1 | refine below_set ?_ GE139.out) | exact HB.out)⟩⟩
                              · rw [if_neg c25] at H
                                have c25b0 : (((rd_T64 l0 x3_1).f4) == 0) = false := beq_eq_false_iff_ne.mpr c25
                                have c25b1 : (((rd_T64 l0 x3_1).f4) != 0) = true := bne_iff_ne.mpr c25
                                have H' := Aside0.mk H
                                clear H
                                have hcz29_0 : wc.cell? ⟨gb139, 0, none⟩ = some (.string ((rd_T64 l0 x3_1).f0)) := (blk_cell BK139.out 0).trans rfl
                                have hcz29_1 : wc.cell? ⟨gb139, 1, none⟩ = some (.int .i64 ((rd_T64 l0 x3_1).f1)) := (blk_cell BK139.out 1).trans rfl
                                have hcz29_2 : wc.cell? ⟨gb139, 2, none⟩ = some (.bool ((rd_T64 l0 x3_1).f2)) := (blk_cell BK139.out 2).trans rfl
                                have hcz29_3 : wc.cell? ⟨gb139, 3, none⟩ = some (.int .i64 ((rd_T64 l0 x3_1).f3)) := (blk_cell BK139.out 3).trans rfl
                                have hcz29_4 : wc.cell? ⟨gb139, 4, none⟩ = some (.int .i64 ((rd_T64 l0 x3_1).f4)) := (blk_cell BK139.out 4).trans rfl
                                have hcz29_5 : wc.cell? ⟨gb139, 5, none⟩ = some (.slice A138_5 ((rd_T64 l0 x3_1).f5).length c138_5) := (blk_cell BK139.out 5).trans rfl
                                have hfz29_0 := blk_frozen BK139.out 0
                                have hfz29_1 := blk_frozen BK139.out 1
                                have hfz29_2 := blk_frozen BK139.out 2
                                have hfz29_3 := blk_frozen BK139.out 3
                                have hfz29_4 := blk_frozen BK139.out 4
                                have hfz29_5 := blk_frozen BK139.out 5
                                go_wp2
                                repeat (go_quiet (fail); try go_wp2)
                                go_meet
                                case rel => exact ⟨_, (true), (by first | rfl | (simp; done) | (simp [*]; done)), H', ⟨by have := HK1.out; have := HK2.out; have := HJ11.out; first | omega | exact Nat.le_refl _⟩, ⟨by (with_reducible repeat (first | refine blk_drewN ?_ _ | refine blk_drew ?_ | refine blk_alloc ?_ _)); exact BK139.out⟩, ⟨by repeat (first | (with_reducible first | exact HB.out | apply below_alloc | apply pw_below_drewN | apply below_drew1 | refine below_set ?_ GE139.out) | exact HB.out)⟩⟩
                            · rw [if_neg c24] at H
                              have c24b0 : (((rd_T64 l0 x3_1).f3) == 0) = false := beq_eq_false_iff_ne.mpr c24
                              have c24b1 : (((rd_T64 l0 x3_1).f3) != 0) = true := bne_iff_ne.mpr c24
                              have H' := Aside0.mk H
                              clear H
                              have hcz30_0 : wc.cell? ⟨gb139, 0, none⟩ = some (.string ((rd_T64 l0 x3_1).f0)) := (blk_cell BK139.out 0).trans rfl
                              have hcz30_1 : wc.cell? ⟨gb139, 1, none⟩ = some (.int .i64 ((rd_T64 l0 x3_1).f1)) := (blk_cell BK139.out 1).trans rfl
                              have hcz30_2 : wc.cell? ⟨gb139, 2, none⟩ = some (.bool ((rd_T64 l0 x3_1).f2)) := (blk_cell BK139.out 2).trans rfl
                              have hcz30_3 : wc.cell? ⟨gb139, 3, none⟩ = some (.int .i64 ((rd_T64 l0 x3_1).f3)) := (blk_cell BK139.out 3).trans rfl
                              have hcz30_4 : wc.cell? ⟨gb139, 4, none⟩ = some (.int .i64 ((rd_T64 l0 x3_1).f4)) := (blk_cell BK139.out 4).trans rfl
                              have hcz30_5 : wc.cell? ⟨gb139, 5, none⟩ = some (.slice A138_5 ((rd_T64 l0 x3_1).f5).length c138_5) := (blk_cell BK139.out 5).trans rfl
                              have hfz30_0 := blk_frozen BK139.out 0
                              have hfz30_1 := blk_frozen BK139.out 1
                              have hfz30_2 := blk_frozen BK139.out 2
                              have hfz30_3 := blk_frozen BK139.out 3
                              have hfz30_4 := blk_frozen BK139.out 4
                              have hfz30_5 := blk_frozen BK139.out 5
                              go_wp2
                              repeat (go_quiet (fail); try go_wp2)
                              go_meet
                              case rel => exact ⟨_, (true), (by first | rfl | (simp; done) | (simp [*]; done)), H', ⟨by have := HK1.out; have := HK2.out; have := HJ11.out; first | omega | exact Nat.le_refl _⟩, ⟨by (with_reducible repeat (first | refine blk_drewN ?_ _ | refine blk_drew ?_ | refine blk_alloc ?_ _)); exact BK139.out⟩, ⟨by repeat (first | (with_reducible first | exact HB.out | apply below_alloc | apply pw_below_drewN | apply below_drew1 | refine below_set ?_ GE139.out) | exact HB.out)⟩⟩
                        · rw [if_neg c21] at H
                          have c21b0 : ((rd_T64 l0 x3_1).f2) = false := by simpa using c21
                          clear c21
                          (first | rw [c21b0] | (simp only [i64_w, i32_w]; rw [c21b0]) | skip)
                          have H' := Aside0.mk H
                          clear H
                          have hcz31_0 : wc.cell? ⟨gb139, 0, none⟩ = some (.string ((rd_T64 l0 x3_1).f0)) := (blk_cell BK139.out 0).trans rfl
                          have hcz31_1 : wc.cell? ⟨gb139, 1, none⟩ = some (.int .i64 ((rd_T64 l0 x3_1).f1)) := (blk_cell BK139.out 1).trans rfl
                          have hcz31_2 : wc.cell? ⟨gb139, 2, none⟩ = some (.bool ((rd_T64 l0 x3_1).f2)) := (blk_cell BK139.out 2).trans rfl
                          have hcz31_3 : wc.cell? ⟨gb139, 3, none⟩ = some (.int .i64 ((rd_T64 l0 x3_1).f3)) := (blk_cell BK139.out 3).trans rfl
                          have hcz31_4 : wc.cell? ⟨gb139, 4, none⟩ = some (.int .i64 ((rd_T64 l0 x3_1).f4)) := (blk_cell BK139.out 4).trans rfl
                          have hcz31_5 : wc.cell? ⟨gb139, 5, none⟩ = some (.slice A138_5 ((rd_T64 l0 x3_1).f5).length c138_5) := (blk_cell BK139.out 5).trans rfl
                          have hfz31_0 := blk_frozen BK139.out 0
                          have hfz31_1 := blk_frozen BK139.out 1
                          have hfz31_2 := blk_frozen BK139.out 2
                          have hfz31_3 := blk_frozen BK139.out 3
                          have hfz31_4 := blk_frozen BK139.out 4
                          have hfz31_5 := blk_frozen BK139.out 5
                          go_wp2
                          repeat (go_quiet (fail); try go_wp2)
                          go_meet
                          case rel => exact ⟨_, (false), (by first | rfl | (simp; done) | (simp [*]; done)), H', ⟨by have := HK1.out; have := HK2.out; have := HJ11.out; first | omega | exact Nat.le_refl _⟩, ⟨by (with_reducible repeat (first | refine blk_drewN ?_ _ | refine blk_drew ?_ | refine blk_alloc ?_ _)); exact BK139.out⟩, ⟨by repeat (first | (with_reducible first | exact HB.out | apply below_alloc | apply pw_below_drewN | apply below_drew1 | refine below_set ?_ GE139.out) | exact HB.out)⟩⟩
                      case rest =>
                        clear HC20
                        try clear c1
                        try clear p1
                        try clear q1
                        try clear hx1
                        try clear c2
                        try clear c2b0
                        try clear p2
                        try clear c3
                        try clear c3b0
                        try clear c5
                        try clear c6
                        try clear c6b0
                        try clear p6
                        try clear c7
                        try clear c7b0
                        try clear c8
                        try clear c8b0
                        try clear c9
                        try clear c9b0
                        try clear c9b1
                        try clear c13
                        try clear p13
                        try clear q13
                        try clear hx13
                        try clear c14
                        try clear p14
                        try clear q14
                        try clear hx14
                        try clear c15
                        try clear c15b0
                        try clear c19
                        try clear c21
                        try clear c21b0
                        try clear c22
                        try clear c22b0
                        try clear c22b1
                        try clear c22b2
                        try clear c24
                        try clear c24b0
                        try clear c24b1
                        try clear c25
                        try clear c25b0
                        try clear c25b1
                        try clear hcz10_0
                        try clear hcz10_1
                        try clear hcz10_2
                        try clear hcz10_3
                        try clear hcz10_4
                        try clear hcz10_5
                        try clear hcz11_0
                        try clear hcz11_1
                        try clear hcz11_2
                        try clear hcz11_3
                        try clear hcz11_4
                        try clear hcz11_5
                        try clear hcz16_0
                        try clear hcz16_1
                        try clear hcz16_2
                        try clear hcz16_3
                        try clear hcz16_4
                        try clear hcz16_5
                        try clear hcz17_0
                        try clear hcz17_1
                        try clear hcz17_2
                        try clear hcz17_3
                        try clear hcz17_4
                        try clear hcz17_5
                        try clear hcz18_0
                        try clear hcz18_1
                        try clear hcz18_2
                        try clear hcz18_3
                        try clear hcz18_4
                        try clear hcz18_5
                        try clear hcz23_0
                        try clear hcz23_1
                        try clear hcz23_2
                        try clear hcz23_3
                        try clear hcz23_4
                        try clear hcz23_5
                        try clear hcz27_0
                        try clear hcz27_1
                        try clear hcz27_2
                        try clear hcz27_3
                        try clear hcz27_4
                        try clear hcz27_5
                        try clear hcz29_0
                        try clear hcz29_1
                        try clear hcz29_2
                        try clear hcz29_3
                        try clear hcz29_4
                        try clear hcz29_5
                        try clear hcz30_0
                        try clear hcz30_1
                        try clear hcz30_2
                        try clear hcz30_3
                        try clear hcz30_4
                        try clear hcz30_5
                        try clear hcz31_0
                        try clear hcz31_1
                        try clear hcz31_2
                        try clear hcz31_3
                        try clear hcz31_4
                        try clear hcz31_5
                        try clear hcz5_0
                        try clear hcz5_1
                        try clear hcz5_2
                        try clear hcz5_3
                        try clear hcz5_4
                        try clear hcz5_5
                        try clear hfz10_0
                        try clear hfz10_1
                        try clear hfz10_2
                        try clear hfz10_3
                        try clear hfz10_4
                        try clear hfz10_5
                        try clear hfz11_0
                        try clear hfz11_1
                        try clear hfz11_2
                        try clear hfz11_3
                        try clear hfz11_4
                        try clear hfz11_5
                        try clear hfz16_0
                        try clear hfz16_1
                        try clear hfz16_2
                        try clear hfz16_3
                        try clear hfz16_4
                        try clear hfz16_5
                        try clear hfz17_0
                        try clear hfz17_1
                        try clear hfz17_2
                        try clear hfz17_3
                        try clear hfz17_4
                        try clear hfz17_5
                        try clear hfz18_0
                        try clear hfz18_1
                        try clear hfz18_2
                        try clear hfz18_3
                        try clear hfz18_4
                        try clear hfz18_5
                        try clear hfz23_0
                        try clear hfz23_1
                        try clear hfz23_2
                        try clear hfz23_3
                        try clear hfz23_4
                        try clear hfz23_5
                        try clear hfz27_0
                        try clear hfz27_1
                        try clear hfz27_2
                        try clear hfz27_3
                        try clear hfz27_4
                        try clear hfz27_5
                        try clear hfz29_0
                        try clear hfz29_1
                        try clear hfz29_2
                        try clear hfz29_3
                        try clear hfz29_4
                        try clear hfz29_5
                        try clear hfz30_0
                        try clear hfz30_1
                        try clear hfz30_2
                        try clear hfz30_3
                        try clear hfz30_4
                        try clear hfz30_5
                        try clear hfz31_0
                        try clear hfz31_1
                        try clear hfz31_2
                        try clear hfz31_3
                        try clear hfz31_4
                        try clear hfz31_5
                        try clear hfz5_0
                        try clear hfz5_1
                        try clear hfz5_2
                        try clear hfz5_3
                        try clear hfz5_4
                        try clear hfz5_5
                        try clear hx138_0
                        try clear hx138_1
                        try clear hx138_2
                        try clear hx138_3
                        try clear hx138_4
                        try clear hx138_5
                        try clear hx140_0
                        try clear hx140_1
                        try clear hx140_2
                        try clear hx140_3
                        try clear hx140_4
                        try clear hx140_5
                        try clear p1
                        try clear p13
                        try clear p138
                        try clear p14
                        try clear p140
                        try clear p2
                        try clear p6
                        try clear q1
                        try clear q13
                        try clear q138
                        try clear q14
                        try clear q140
                        obtain ⟨kq, x66_19, rfl, HA, HJ19, BK139, HB⟩ := hcut
                        cases kq with
                        | zero => exact absurd HA.out (by simp [marquetryref16_fine.j3])
                        | succ kj19 =>
                          have H := HA.out
                          clear HA
                          simp only [marquetryref16_fine.j3] at H
                          by_cases c32 : x66_19 = true
                          · subst c32
                            have H1 : (some false) = some r := by rw [if_pos rfl] at H; exact H
                            clear H
                            have H := H1
                            clear H1
                            obtain rfl := Option.some.inj H
                            go_wp2
                            repeat (go_quiet (fail); try go_wp2)
                            go_ret
                            exact ⟨by first | rfl | (simp [errW_none, errW_some] <;> rfl) | (simp [*, errW_none, errW_some] <;> rfl), by repeat (first | (with_reducible first | exact HB.out | apply below_alloc | apply pw_below_drewN | apply below_drew1 | refine below_set ?_ GE139.out) | exact HB.out)⟩
                          · replace c32 := Bool.eq_false_iff.mpr c32
                            subst c32
                            have H1 : (if ((rd_T64 l0 x3_1).f2) = true then (marquetryref16_fine.l0 kj19 l0 (wrap64 (x3_1 + 1))) else (if (((rd_T64 l0 x3_1).f5).length : Int) > 0 then (some false) else ((marquetryref09_Check.f kj19 ((rd_T64 l0 x3_1).f3) ((rd_T64 l0 x3_1).f4)).bind fun t143 => (if t143 = true then (marquetryref16_fine.l0 kj19 l0 (wrap64 (x3_1 + 1))) else (some false))))) = some r := by rw [if_neg (show ¬ (false = true) by decide)] at H; exact H
                            clear H
                            have H := H1
                            clear H1
                            by_cases c33 : ((rd_T64 l0 x3_1).f2) = true
                            · rw [if_pos c33] at H
                              have c33b0 : ((rd_T64 l0 x3_1).f2) = true := c33
                              clear c33
                              have H' := Aside0.mk H
                              clear H
                              have hcz34_0 : wc.cell? ⟨gb139, 0, none⟩ = some (.string ((rd_T64 l0 x3_1).f0)) := (blk_cell BK139.out 0).trans rfl
                              have hcz34_1 : wc.cell? ⟨gb139, 1, none⟩ = some (.int .i64 ((rd_T64 l0 x3_1).f1)) := (blk_cell BK139.out 1).trans rfl
                              have hcz34_2 : wc.cell? ⟨gb139, 2, none⟩ = some (.bool ((rd_T64 l0 x3_1).f2)) := (blk_cell BK139.out 2).trans rfl
                              have hcz34_3 : wc.cell? ⟨gb139, 3, none⟩ = some (.int .i64 ((rd_T64 l0 x3_1).f3)) := (blk_cell BK139.out 3).trans rfl
                              have hcz34_4 : wc.cell? ⟨gb139, 4, none⟩ = some (.int .i64 ((rd_T64 l0 x3_1).f4)) := (blk_cell BK139.out 4).trans rfl
                              have hcz34_5 : wc.cell? ⟨gb139, 5, none⟩ = some (.slice A138_5 ((rd_T64 l0 x3_1).f5).length c138_5) := (blk_cell BK139.out 5).trans rfl
                              have hfz34_0 := blk_frozen BK139.out 0
                              have hfz34_1 := blk_frozen BK139.out 1
                              have hfz34_2 := blk_frozen BK139.out 2
                              have hfz34_3 := blk_frozen BK139.out 3
                              have hfz34_4 := blk_frozen BK139.out 4
                              have hfz34_5 := blk_frozen BK139.out 5
                              go_wp2
                              repeat (go_quiet (fail); try go_wp2)
                              go_roundg kj19
                              case measure => have := HK1.out; have := HK2.out; have := HJ11.out; have := HJ19.out; omega
                              case rel => exact ⟨(wrap64 (x3_1 + 1)), (by first | rfl | (simp; done) | (simp [*]; done)), H', ⟨by have := HK1.out; have := HK2.out; have := HJ11.out; have := HJ19.out; omega⟩, ⟨by repeat (first | (with_reducible first | exact HB.out | apply below_alloc | apply pw_below_drewN | apply below_drew1 | refine below_set ?_ GE139.out) | exact HB.out)⟩⟩
                            · rw [if_neg c33] at H
                              have c33b0 : ((rd_T64 l0 x3_1).f2) = false := by simpa using c33
                              clear c33
                              by_cases c35 : (((rd_T64 l0 x3_1).f5).length : Int) > 0
                              · rw [if_pos c35] at H
                                have c35b0 : decide (0 < (((rd_T64 l0 x3_1).f5).length : Int)) = true := decide_eq_true c35
                                have c35b1 : decide (0 < ((rd_T64 l0 x3_1).f5).length) = true := decide_eq_true (by omega)
                                clear c35
                                obtain rfl := Option.some.inj H
                                have hcz36_0 : wc.cell? ⟨gb139, 0, none⟩ = some (.string ((rd_T64 l0 x3_1).f0)) := (blk_cell BK139.out 0).trans rfl
                                have hcz36_1 : wc.cell? ⟨gb139, 1, none⟩ = some (.int .i64 ((rd_T64 l0 x3_1).f1)) := (blk_cell BK139.out 1).trans rfl
                                have hcz36_2 : wc.cell? ⟨gb139, 2, none⟩ = some (.bool ((rd_T64 l0 x3_1).f2)) := (blk_cell BK139.out 2).trans rfl
                                have hcz36_3 : wc.cell? ⟨gb139, 3, none⟩ = some (.int .i64 ((rd_T64 l0 x3_1).f3)) := (blk_cell BK139.out 3).trans rfl
                                have hcz36_4 : wc.cell? ⟨gb139, 4, none⟩ = some (.int .i64 ((rd_T64 l0 x3_1).f4)) := (blk_cell BK139.out 4).trans rfl
                                have hcz36_5 : wc.cell? ⟨gb139, 5, none⟩ = some (.slice A138_5 ((rd_T64 l0 x3_1).f5).length c138_5) := (blk_cell BK139.out 5).trans rfl
                                have hfz36_0 := blk_frozen BK139.out 0
                                have hfz36_1 := blk_frozen BK139.out 1
                                have hfz36_2 := blk_frozen BK139.out 2
                                have hfz36_3 := blk_frozen BK139.out 3
                                have hfz36_4 := blk_frozen BK139.out 4
                                have hfz36_5 := blk_frozen BK139.out 5
                                go_wp2
                                repeat (go_quiet (fail); try go_wp2)
                                go_ret
                                exact ⟨by first | rfl | (simp [errW_none, errW_some] <;> rfl) | (simp [*, errW_none, errW_some] <;> rfl), by repeat (first | (with_reducible first | exact HB.out | apply below_alloc | apply pw_below_drewN | apply below_drew1 | refine below_set ?_ GE139.out) | exact HB.out)⟩
                              · rw [if_neg c35] at H
                                have c35b0 : decide (0 < (((rd_T64 l0 x3_1).f5).length : Int)) = false := decide_eq_false c35
                                have c35b1 : decide (0 < ((rd_T64 l0 x3_1).f5).length) = false := decide_eq_false (by omega)
                                clear c35
                                replace H := Option.bind_eq_some_iff.mp H
                                obtain ⟨t143, A370, H⟩ := H
                                replace H : (if t143 = true then (marquetryref16_fine.l0 kj19 l0 (wrap64 (x3_1 + 1))) else (some false)) = some r := H
                                have A37 := Aside0.mk A370
                                clear A370
                                by_cases c38 : t143 = true
                                · subst c38
                                  have H1 : (marquetryref16_fine.l0 kj19 l0 (wrap64 (x3_1 + 1))) = some r := by rw [if_pos rfl] at H; exact H
                                  clear H
                                  have H := H1
                                  clear H1
                                  have H' := Aside0.mk H
                                  clear H
                                  have hcz39_0 : wc.cell? ⟨gb139, 0, none⟩ = some (.string ((rd_T64 l0 x3_1).f0)) := (blk_cell BK139.out 0).trans rfl
                                  have hcz39_1 : wc.cell? ⟨gb139, 1, none⟩ = some (.int .i64 ((rd_T64 l0 x3_1).f1)) := (blk_cell BK139.out 1).trans rfl
                                  have hcz39_2 : wc.cell? ⟨gb139, 2, none⟩ = some (.bool ((rd_T64 l0 x3_1).f2)) := (blk_cell BK139.out 2).trans rfl
                                  have hcz39_3 : wc.cell? ⟨gb139, 3, none⟩ = some (.int .i64 ((rd_T64 l0 x3_1).f3)) := (blk_cell BK139.out 3).trans rfl
                                  have hcz39_4 : wc.cell? ⟨gb139, 4, none⟩ = some (.int .i64 ((rd_T64 l0 x3_1).f4)) := (blk_cell BK139.out 4).trans rfl
                                  have hcz39_5 : wc.cell? ⟨gb139, 5, none⟩ = some (.slice A138_5 ((rd_T64 l0 x3_1).f5).length c138_5) := (blk_cell BK139.out 5).trans rfl
                                  have hfz39_0 := blk_frozen BK139.out 0
                                  have hfz39_1 := blk_frozen BK139.out 1
                                  have hfz39_2 := blk_frozen BK139.out 2
                                  have hfz39_3 := blk_frozen BK139.out 3
                                  have hfz39_4 := blk_frozen BK139.out 4
                                  have hfz39_5 := blk_frozen BK139.out 5
                                  go_wp2_with (first | (go_at_call 73; (with_reducible refine (marquetryref09_Check.calls kj19 ((rd_T64 l0 x3_1).f3) ((rd_T64 l0 x3_1).f4) true _ A37.out).mono ?_); rintro e w40 ⟨rfl, hb⟩; have n0_ := Aside0.mk (blk_below (g := gb139) (o := .cells #[.string ((rd_T64 l0 x3_1).f0), .int .i64 ((rd_T64 l0 x3_1).f1), .bool ((rd_T64 l0 x3_1).f2), .int .i64 ((rd_T64 l0 x3_1).f3), .int .i64 ((rd_T64 l0 x3_1).f4), .slice A138_5 ((rd_T64 l0 x3_1).f5).length c138_5] 64 (0, 0)) (by (with_reducible repeat (first | refine blk_drewN ?_ _ | refine blk_drew ?_ | refine blk_alloc ?_ _)); exact BK139.out) hb); have n1_ := Aside0.mk (below_step (by repeat (first | (with_reducible first | exact HB.out | apply below_alloc | apply pw_below_drewN | apply below_drew1 | refine below_set ?_ GE139.out) | exact HB.out)) hb); clear BK139; clear HB; have BK139 := n0_; have HB := n1_; clear n0_ n1_; (try clear hb); (try clear hb2); (try clear hk); (try clear hi)))
                                  repeat (go_quiet (first | (go_at_call 73; (with_reducible refine (marquetryref09_Check.calls kj19 ((rd_T64 l0 x3_1).f3) ((rd_T64 l0 x3_1).f4) true _ A37.out).mono ?_); rintro e w40 ⟨rfl, hb⟩; have n0_ := Aside0.mk (blk_below (g := gb139) (o := .cells #[.string ((rd_T64 l0 x3_1).f0), .int .i64 ((rd_T64 l0 x3_1).f1), .bool ((rd_T64 l0 x3_1).f2), .int .i64 ((rd_T64 l0 x3_1).f3), .int .i64 ((rd_T64 l0 x3_1).f4), .slice A138_5 ((rd_T64 l0 x3_1).f5).length c138_5] 64 (0, 0)) (by (with_reducible repeat (first | refine blk_drewN ?_ _ | refine blk_drew ?_ | refine blk_alloc ?_ _)); exact BK139.out) hb); have n1_ := Aside0.mk (below_step (by repeat (first | (with_reducible first | exact HB.out | apply below_alloc | apply pw_below_drewN | apply below_drew1 | refine below_set ?_ GE139.out) | exact HB.out)) hb); clear BK139; clear HB; have BK139 := n0_; have HB := n1_; clear n0_ n1_; (try clear hb); (try clear hb2); (try clear hk); (try clear hi))); try go_wp2_with (first | (go_at_call 73; (with_reducible refine (marquetryref09_Check.calls kj19 ((rd_T64 l0 x3_1).f3) ((rd_T64 l0 x3_1).f4) true _ A37.out).mono ?_); rintro e w40 ⟨rfl, hb⟩; have n0_ := Aside0.mk (blk_below (g := gb139) (o := .cells #[.string ((rd_T64 l0 x3_1).f0), .int .i64 ((rd_T64 l0 x3_1).f1), .bool ((rd_T64 l0 x3_1).f2), .int .i64 ((rd_T64 l0 x3_1).f3), .int .i64 ((rd_T64 l0 x3_1).f4), .slice A138_5 ((rd_T64 l0 x3_1).f5).length c138_5] 64 (0, 0)) (by (with_reducible repeat (first | refine blk_drewN ?_ _ | refine blk_drew ?_ | refine blk_alloc ?_ _)); exact BK139.out) hb); have n1_ := Aside0.mk (below_step (by repeat (first | (with_reducible first | exact HB.out | apply below_alloc | apply pw_below_drewN | apply below_drew1 | refine below_set ?_ GE139.out) | exact HB.out)) hb); clear BK139; clear HB; have BK139 := n0_; have HB := n1_; clear n0_ n1_; (try clear hb); (try clear hb2); (try clear hk); (try clear hi))))
                                  go_roundg kj19
                                  case measure => have := HK1.out; have := HK2.out; have := HJ11.out; have := HJ19.out; omega
                                  case rel => exact ⟨(wrap64 (x3_1 + 1)), (by first | rfl | (simp; done) | (simp [*]; done)), H', ⟨by have := HK1.out; have := HK2.out; have := HJ11.out; have := HJ19.out; omega⟩, ⟨by repeat (first | (with_reducible first | exact HB.out | apply below_alloc | apply pw_below_drewN | apply below_drew1 | refine below_set ?_ GE139.out) | exact HB.out)⟩⟩
                                · replace c38 := Bool.eq_false_iff.mpr c38
                                  subst c38
                                  have H1 : (some false) = some r := by rw [if_neg (show ¬ (false = true) by decide)] at H; exact H
                                  clear H
                                  have H := H1
                                  clear H1
                                  obtain rfl := Option.some.inj H
                                  have hcz41_0 : wc.cell? ⟨gb139, 0, none⟩ = some (.string ((rd_T64 l0 x3_1).f0)) := (blk_cell BK139.out 0).trans rfl
                                  have hcz41_1 : wc.cell? ⟨gb139, 1, none⟩ = some (.int .i64 ((rd_T64 l0 x3_1).f1)) := (blk_cell BK139.out 1).trans rfl
                                  have hcz41_2 : wc.cell? ⟨gb139, 2, none⟩ = some (.bool ((rd_T64 l0 x3_1).f2)) := (blk_cell BK139.out 2).trans rfl
                                  have hcz41_3 : wc.cell? ⟨gb139, 3, none⟩ = some (.int .i64 ((rd_T64 l0 x3_1).f3)) := (blk_cell BK139.out 3).trans rfl
                                  have hcz41_4 : wc.cell? ⟨gb139, 4, none⟩ = some (.int .i64 ((rd_T64 l0 x3_1).f4)) := (blk_cell BK139.out 4).trans rfl
                                  have hcz41_5 : wc.cell? ⟨gb139, 5, none⟩ = some (.slice A138_5 ((rd_T64 l0 x3_1).f5).length c138_5) := (blk_cell BK139.out 5).trans rfl
                                  have hfz41_0 := blk_frozen BK139.out 0
                                  have hfz41_1 := blk_frozen BK139.out 1
                                  have hfz41_2 := blk_frozen BK139.out 2
                                  have hfz41_3 := blk_frozen BK139.out 3
                                  have hfz41_4 := blk_frozen BK139.out 4
                                  have hfz41_5 := blk_frozen BK139.out 5
                                  go_wp2_with (first | (go_at_call 73; (with_reducible refine (marquetryref09_Check.calls kj19 ((rd_T64 l0 x3_1).f3) ((rd_T64 l0 x3_1).f4) false _ A37.out).mono ?_); rintro e w42 ⟨rfl, hb⟩; have n0_ := Aside0.mk (blk_below (g := gb139) (o := .cells #[.string ((rd_T64 l0 x3_1).f0), .int .i64 ((rd_T64 l0 x3_1).f1), .bool ((rd_T64 l0 x3_1).f2), .int .i64 ((rd_T64 l0 x3_1).f3), .int .i64 ((rd_T64 l0 x3_1).f4), .slice A138_5 ((rd_T64 l0 x3_1).f5).length c138_5] 64 (0, 0)) (by (with_reducible repeat (first | refine blk_drewN ?_ _ | refine blk_drew ?_ | refine blk_alloc ?_ _)); exact BK139.out) hb); have n1_ := Aside0.mk (below_step (by repeat (first | (with_reducible first | exact HB.out | apply below_alloc | apply pw_below_drewN | apply below_drew1 | refine below_set ?_ GE139.out) | exact HB.out)) hb); clear BK139; clear HB; have BK139 := n0_; have HB := n1_; clear n0_ n1_; (try clear hb); (try clear hb2); (try clear hk); (try clear hi)))
                                  repeat (go_quiet (first | (go_at_call 73; (with_reducible refine (marquetryref09_Check.calls kj19 ((rd_T64 l0 x3_1).f3) ((rd_T64 l0 x3_1).f4) false _ A37.out).mono ?_); rintro e w42 ⟨rfl, hb⟩; have n0_ := Aside0.mk (blk_below (g := gb139) (o := .cells #[.string ((rd_T64 l0 x3_1).f0), .int .i64 ((rd_T64 l0 x3_1).f1), .bool ((rd_T64 l0 x3_1).f2), .int .i64 ((rd_T64 l0 x3_1).f3), .int .i64 ((rd_T64 l0 x3_1).f4), .slice A138_5 ((rd_T64 l0 x3_1).f5).length c138_5] 64 (0, 0)) (by (with_reducible repeat (first | refine blk_drewN ?_ _ | refine blk_drew ?_ | refine blk_alloc ?_ _)); exact BK139.out) hb); have n1_ := Aside0.mk (below_step (by repeat (first | (with_reducible first | exact HB.out | apply below_alloc | apply pw_below_drewN | apply below_drew1 | refine below_set ?_ GE139.out) | exact HB.out)) hb); clear BK139; clear HB; have BK139 := n0_; have HB := n1_; clear n0_ n1_; (try clear hb); (try clear hb2); (try clear hk); (try clear hi))); try go_wp2_with (first | (go_at_call 73; (with_reducible refine (marquetryref09_Check.calls kj19 ((rd_T64 l0 x3_1).f3) ((rd_T64 l0 x3_1).f4) false _ A37.out).mono ?_); rintro e w42 ⟨rfl, hb⟩; have n0_ := Aside0.mk (blk_below (g := gb139) (o := .cells #[.string ((rd_T64 l0 x3_1).f0), .int .i64 ((rd_T64 l0 x3_1).f1), .bool ((rd_T64 l0 x3_1).f2), .int .i64 ((rd_T64 l0 x3_1).f3), .int .i64 ((rd_T64 l0 x3_1).f4), .slice A138_5 ((rd_T64 l0 x3_1).f5).length c138_5] 64 (0, 0)) (by (with_reducible repeat (first | refine blk_drewN ?_ _ | refine blk_drew ?_ | refine blk_alloc ?_ _)); exact BK139.out) hb); have n1_ := Aside0.mk (below_step (by repeat (first | (with_reducible first | exact HB.out | apply below_alloc | apply pw_below_drewN | apply below_drew1 | refine below_set ?_ GE139.out) | exact HB.out)) hb); clear BK139; clear HB; have BK139 := n0_; have HB := n1_; clear n0_ n1_; (try clear hb); (try clear hb2); (try clear hk); (try clear hi))))
                                  go_ret
                                  exact ⟨by first | rfl | (simp [errW_none, errW_some] <;> rfl) | (simp [*, errW_none, errW_some] <;> rfl), by repeat (first | (with_reducible first | exact HB.out | apply below_alloc | apply pw_below_drewN | apply below_drew1 | refine below_set ?_ GE139.out) | exact HB.out)⟩
        · rw [if_neg c3] at H
          exact absurd H (by simp)
      · rw [if_neg c2] at H
        have c2b0 : decide (x3_1 < (l0.length : Int)) = false := decide_eq_false c2
        clear c2
        obtain rfl := Option.some.inj H
        go_wp2
        repeat (go_quiet (fail); try go_wp2)
        go_ret
        exact ⟨by first | rfl | (simp [errW_none, errW_some] <;> rfl) | (simp [*, errW_none, errW_some] <;> rfl), by repeat (first | (with_reducible first | exact HB.out | apply below_alloc | apply pw_below_drewN | apply below_drew1) | exact HB.out)⟩

end Go.Proofs.YtnbmgljcnbhinaaDoor.H
end
section
-- Laid by this session's hprint.py, out of the kit's print.py and texts of the session. Not trusted: Lean checks it.
namespace Go.Proofs.YtnbmgljcnbhinaaDoor.H
open Go.RowKit Go.Proofs.YtnbmgljcnbhinaaDoorW.PrintWords Go.Proofs.YtnbmgljcnbhinaaDoorW.PrintLast Go.Proofs.YtnbmgljcnbhinaaDoorW.PrintMore
attribute [local go_sem] max2_int min2_int max_two min_two max_three min_three max_four min_four   -- for this text's walks alone
set_option linter.unusedVariables false
set_option linter.unusedSimpArgs false

/-! ### marquetryref16_Check: function 27 -/
def marquetryref16_Check.f (k : Nat) (a0_0 : ByteArray) (l0_1 : List (S64)) : Option (Bool) := (marquetryref16_named.f k a0_0).bind fun t145 => (if t145 = true then (if (l0_1.length : Int) > 0 then ((marquetryref16_Count.f k l0_1).bind fun t146 => (if t146 ≤ 256 then ((marquetryref16_deep.f k l0_1 33).bind fun t147 => (if t147 ≤ 32 then ((marquetryref16_fine.f k l0_1).bind fun t148 => (some t148)) else (some false))) else (some false))) else (some false)) else (some false))
set_option maxHeartbeats 8000000 in
set_option maxRecDepth 100000 in
theorem marquetryref16_Check.calls (k : Nat) (a0_0 : ByteArray) (A0_1 : Option Addr) (c0_1 : Nat) (l0_1 : List (S64)) (r : Bool) (w : World) (hr0_1 : Kd.C k64 w A0_1 l0_1.length l0_1) (hc0_1 : l0_1.length ≤ c0_1) (h : marquetryref16_Check.f k a0_0 l0_1 = some r) :
    Calls Tryd.prog 27 #[.agg #[.string a0_0, .slice A0_1 l0_1.length c0_1]] w fun e w' => e = .returned (.bool r) ∧ Below w.heap.size w w' := by
  have hu24 := Tryd.underlying24
  have HR0_1 := Aside0.mk hr0_1
  have HC0_1 := Aside0.mk hc0_1
  clear hr0_1 hc0_1
  have HB := Aside0.mk (Below.refl w.heap.size w)
  have H : ((marquetryref16_named.f k a0_0).bind fun t145 => (if t145 = true then (if (l0_1.length : Int) > 0 then ((marquetryref16_Count.f k l0_1).bind fun t146 => (if t146 ≤ 256 then ((marquetryref16_deep.f k l0_1 33).bind fun t147 => (if t147 ≤ 32 then ((marquetryref16_fine.f k l0_1).bind fun t148 => (some t148)) else (some false))) else (some false))) else (some false)) else (some false))) = some r := h
  clear h
  replace H := Option.bind_eq_some_iff.mp H
  obtain ⟨t145, A20, H⟩ := H
  replace H : (if t145 = true then (if (l0_1.length : Int) > 0 then ((marquetryref16_Count.f k l0_1).bind fun t146 => (if t146 ≤ 256 then ((marquetryref16_deep.f k l0_1 33).bind fun t147 => (if t147 ≤ 32 then ((marquetryref16_fine.f k l0_1).bind fun t148 => (some t148)) else (some false))) else (some false))) else (some false)) else (some false)) = some r := H
  have A2 := Aside0.mk A20
  clear A20
  by_cases c3 : t145 = true
  · subst c3
    have H1 : (if (l0_1.length : Int) > 0 then ((marquetryref16_Count.f k l0_1).bind fun t146 => (if t146 ≤ 256 then ((marquetryref16_deep.f k l0_1 33).bind fun t147 => (if t147 ≤ 32 then ((marquetryref16_fine.f k l0_1).bind fun t148 => (some t148)) else (some false))) else (some false))) else (some false)) = some r := by rw [if_pos rfl] at H; exact H
    clear H
    have H := H1
    clear H1
    by_cases c4 : (l0_1.length : Int) > 0
    · rw [if_pos c4] at H
      have c4b0 : decide (0 < (l0_1.length : Int)) = true := decide_eq_true c4
      have c4b1 : decide (0 < l0_1.length) = true := decide_eq_true (by omega)
      clear c4
      replace H := Option.bind_eq_some_iff.mp H
      obtain ⟨t146, A50, H⟩ := H
      replace H : (if t146 ≤ 256 then ((marquetryref16_deep.f k l0_1 33).bind fun t147 => (if t147 ≤ 32 then ((marquetryref16_fine.f k l0_1).bind fun t148 => (some t148)) else (some false))) else (some false)) = some r := H
      have A5 := Aside0.mk A50
      clear A50
      by_cases c6 : t146 ≤ 256
      · rw [if_pos c6] at H
        have c6b0 : decide (t146 ≤ 256) = true := decide_eq_true c6
        clear c6
        replace H := Option.bind_eq_some_iff.mp H
        obtain ⟨t147, A70, H⟩ := H
        replace H : (if t147 ≤ 32 then ((marquetryref16_fine.f k l0_1).bind fun t148 => (some t148)) else (some false)) = some r := H
        have A7 := Aside0.mk A70
        clear A70
        by_cases c8 : t147 ≤ 32
        · rw [if_pos c8] at H
          have c8b0 : decide (t147 ≤ 32) = true := decide_eq_true c8
          clear c8
          replace H := Option.bind_eq_some_iff.mp H
          obtain ⟨t148, A90, H⟩ := H
          replace H : (some t148) = some r := H
          have A9 := Aside0.mk A90
          clear A90
          obtain rfl := Option.some.inj H
          go_enter Tryd.func27, Tryd.ntmps27
          go_wp2_with (first | ((with_reducible refine gate_dst (N := 1) rfl ?_); (try (refine gate_guard (by rfl) ?_; dsimp only)); refine box_event ?hg (N := 1) ?hd (cs := #[.string a0_0, .slice A0_1 l0_1.length c0_1]) (t := 24) ?hr ?_; (case hd => rfl); (case hg => rfl); (case hr => first | (go_simp; done) | (go_simp; rfl)); intro gb144 hg w10 hbox hb; have n0_ := Aside0.mk (below_step (by repeat (first | (with_reducible first | exact HB.out | apply below_alloc | apply pw_below_drewN | apply below_drew1) | exact HB.out)) hb); have n1_ := Aside0.mk (hbox); have n2_ := Aside0.mk ((by rw [hg]; exact (below_size (by repeat (first | (with_reducible first | exact HB.out | apply below_alloc | apply pw_below_drewN | apply below_drew1) | exact HB.out))) : w.heap.size ≤ gb144)); have n3_ := Aside0.mk ((by rw [hg]; exact (below_size (by repeat (first | (with_reducible first | exact HB.out | apply below_alloc | apply pw_below_drewN | apply below_drew1) | exact HB.out))) : w.heap.size ≤ gb144)); clear HB; have HB := n0_; have BK144 := n1_; have GW144 := n2_; have GE144 := n3_; clear n0_ n1_ n2_ n3_; clear hb hbox hg; have hcz11_0 : w10.cell? ⟨gb144, 0, none⟩ = some (.string a0_0) := (blk_cell BK144.out 0).trans rfl; have hcz11_1 : w10.cell? ⟨gb144, 1, none⟩ = some (.slice A0_1 l0_1.length c0_1) := (blk_cell BK144.out 1).trans rfl; have hfz11_0 := blk_frozen BK144.out 0; have hfz11_1 := blk_frozen BK144.out 1) | ((with_reducible refine gate_callee (f := 48) rfl ?_); refine goesL_ (some 5) rfl rfl Tryd.func48 (by kernel_rfl) rfl #[.string a0_0] rfl (by (try simp only [List.map_toArray, List.map_cons, List.map_nil]); first | done | rfl | (simp only [List.length_drop, List.length_take]; rfl)) ?_; (with_reducible refine (marquetryref16_named.calls k a0_0 true _ A2.out).mono ?_); rintro e w' ⟨rfl, ⟨nd, rfl⟩⟩; refine ⟨_, rfl, ?_⟩) | (go_at_call 21; (with_reducible refine (marquetryref16_Count.calls k _ _ l0_1 t146 _ ?side1 ?side2 A5.out).mono ?_); (case side1 => repeat (first | exact (Kd.C_below HR0_1.out (by repeat (first | (with_reducible first | exact HB.out | apply below_alloc | apply pw_below_drewN | apply below_drew1 | refine below_set ?_ GE144.out) | exact HB.out))) | (with_reducible refine Kd.C_alloc ?_ _) | (with_reducible refine Kd.C_drewN ?_ _) | (with_reducible refine Kd.C_drew ?_))); (case side2 => exact HC0_1.out); rintro e w' ⟨rfl, ⟨nd, rfl⟩⟩) | (go_at_call 49; (with_reducible refine (marquetryref16_deep.calls k _ _ l0_1 33 t147 _ ?side1 ?side2 A7.out).mono ?_); (case side1 => repeat (first | exact (Kd.C_below HR0_1.out (by repeat (first | (with_reducible first | exact HB.out | apply below_alloc | apply pw_below_drewN | apply below_drew1 | refine below_set ?_ GE144.out) | exact HB.out))) | (with_reducible refine Kd.C_alloc ?_ _) | (with_reducible refine Kd.C_drewN ?_ _) | (with_reducible refine Kd.C_drew ?_))); (case side2 => exact HC0_1.out); rintro e w12 ⟨rfl, hb⟩; have n0_ := Aside0.mk (blk_below (g := gb144) (o := .cells #[.string a0_0, .slice A0_1 l0_1.length c0_1] 24 (0, 0)) (by (with_reducible repeat (first | refine blk_drewN ?_ _ | refine blk_drew ?_ | refine blk_alloc ?_ _)); exact BK144.out) hb); have n1_ := Aside0.mk (below_step (by repeat (first | (with_reducible first | exact HB.out | apply below_alloc | apply pw_below_drewN | apply below_drew1 | refine below_set ?_ GE144.out) | exact HB.out)) hb); clear BK144; clear HB; have BK144 := n0_; have HB := n1_; clear n0_ n1_; (try clear hb); (try clear hb2); (try clear hk); (try clear hi); have hcz13_0 : w12.cell? ⟨gb144, 0, none⟩ = some (.string a0_0) := (blk_cell BK144.out 0).trans rfl; have hcz13_1 : w12.cell? ⟨gb144, 1, none⟩ = some (.slice A0_1 l0_1.length c0_1) := (blk_cell BK144.out 1).trans rfl; have hfz13_0 := blk_frozen BK144.out 0; have hfz13_1 := blk_frozen BK144.out 1) | (go_at_call 50; (with_reducible refine (marquetryref16_fine.calls k _ _ l0_1 t148 _ ?side1 ?side2 A9.out).mono ?_); (case side1 => repeat (first | exact (Kd.C_below HR0_1.out HB.out) | (with_reducible refine Kd.C_alloc ?_ _) | (with_reducible refine Kd.C_drewN ?_ _) | (with_reducible refine Kd.C_drew ?_))); (case side2 => exact HC0_1.out); rintro e w14 ⟨rfl, hb⟩; have n0_ := Aside0.mk (blk_below (g := gb144) (o := .cells #[.string a0_0, .slice A0_1 l0_1.length c0_1] 24 (0, 0)) (by (with_reducible repeat (first | refine blk_drewN ?_ _ | refine blk_drew ?_ | refine blk_alloc ?_ _)); exact BK144.out) hb); have n1_ := Aside0.mk (below_step (by repeat (first | (with_reducible first | exact HB.out | apply below_alloc | apply pw_below_drewN | apply below_drew1 | refine below_set ?_ GE144.out) | exact HB.out)) hb); clear BK144; clear HB; have BK144 := n0_; have HB := n1_; clear n0_ n1_; (try clear hb); (try clear hb2); (try clear hk); (try clear hi)))
          go_ret
          exact ⟨by first | rfl | (simp [errW_none, errW_some] <;> rfl) | (simp [*, errW_none, errW_some] <;> rfl), by repeat (first | (with_reducible first | exact HB.out | apply below_alloc | apply pw_below_drewN | apply below_drew1 | refine below_set ?_ GE144.out) | exact HB.out)⟩
        · rw [if_neg c8] at H
          have c8b0 : decide (t147 ≤ 32) = false := decide_eq_false c8
          clear c8
          obtain rfl := Option.some.inj H
          go_enter Tryd.func27, Tryd.ntmps27
          go_wp2_with (first | ((with_reducible refine gate_dst (N := 1) rfl ?_); (try (refine gate_guard (by rfl) ?_; dsimp only)); refine box_event ?hg (N := 1) ?hd (cs := #[.string a0_0, .slice A0_1 l0_1.length c0_1]) (t := 24) ?hr ?_; (case hd => rfl); (case hg => rfl); (case hr => first | (go_simp; done) | (go_simp; rfl)); intro gb144 hg w15 hbox hb; have n0_ := Aside0.mk (below_step (by repeat (first | (with_reducible first | exact HB.out | apply below_alloc | apply pw_below_drewN | apply below_drew1) | exact HB.out)) hb); have n1_ := Aside0.mk (hbox); have n2_ := Aside0.mk ((by rw [hg]; exact (below_size (by repeat (first | (with_reducible first | exact HB.out | apply below_alloc | apply pw_below_drewN | apply below_drew1) | exact HB.out))) : w.heap.size ≤ gb144)); have n3_ := Aside0.mk ((by rw [hg]; exact (below_size (by repeat (first | (with_reducible first | exact HB.out | apply below_alloc | apply pw_below_drewN | apply below_drew1) | exact HB.out))) : w.heap.size ≤ gb144)); clear HB; have HB := n0_; have BK144 := n1_; have GW144 := n2_; have GE144 := n3_; clear n0_ n1_ n2_ n3_; clear hb hbox hg; have hcz16_0 : w15.cell? ⟨gb144, 0, none⟩ = some (.string a0_0) := (blk_cell BK144.out 0).trans rfl; have hcz16_1 : w15.cell? ⟨gb144, 1, none⟩ = some (.slice A0_1 l0_1.length c0_1) := (blk_cell BK144.out 1).trans rfl; have hfz16_0 := blk_frozen BK144.out 0; have hfz16_1 := blk_frozen BK144.out 1) | ((with_reducible refine gate_callee (f := 48) rfl ?_); refine goesL_ (some 5) rfl rfl Tryd.func48 (by kernel_rfl) rfl #[.string a0_0] rfl (by (try simp only [List.map_toArray, List.map_cons, List.map_nil]); first | done | rfl | (simp only [List.length_drop, List.length_take]; rfl)) ?_; (with_reducible refine (marquetryref16_named.calls k a0_0 true _ A2.out).mono ?_); rintro e w' ⟨rfl, ⟨nd, rfl⟩⟩; refine ⟨_, rfl, ?_⟩) | (go_at_call 21; (with_reducible refine (marquetryref16_Count.calls k _ _ l0_1 t146 _ ?side1 ?side2 A5.out).mono ?_); (case side1 => repeat (first | exact (Kd.C_below HR0_1.out (by repeat (first | (with_reducible first | exact HB.out | apply below_alloc | apply pw_below_drewN | apply below_drew1 | refine below_set ?_ GE144.out) | exact HB.out))) | (with_reducible refine Kd.C_alloc ?_ _) | (with_reducible refine Kd.C_drewN ?_ _) | (with_reducible refine Kd.C_drew ?_))); (case side2 => exact HC0_1.out); rintro e w' ⟨rfl, ⟨nd, rfl⟩⟩) | (go_at_call 49; (with_reducible refine (marquetryref16_deep.calls k _ _ l0_1 33 t147 _ ?side1 ?side2 A7.out).mono ?_); (case side1 => repeat (first | exact (Kd.C_below HR0_1.out (by repeat (first | (with_reducible first | exact HB.out | apply below_alloc | apply pw_below_drewN | apply below_drew1 | refine below_set ?_ GE144.out) | exact HB.out))) | (with_reducible refine Kd.C_alloc ?_ _) | (with_reducible refine Kd.C_drewN ?_ _) | (with_reducible refine Kd.C_drew ?_))); (case side2 => exact HC0_1.out); rintro e w17 ⟨rfl, hb⟩; have n0_ := Aside0.mk (blk_below (g := gb144) (o := .cells #[.string a0_0, .slice A0_1 l0_1.length c0_1] 24 (0, 0)) (by (with_reducible repeat (first | refine blk_drewN ?_ _ | refine blk_drew ?_ | refine blk_alloc ?_ _)); exact BK144.out) hb); have n1_ := Aside0.mk (below_step (by repeat (first | (with_reducible first | exact HB.out | apply below_alloc | apply pw_below_drewN | apply below_drew1 | refine below_set ?_ GE144.out) | exact HB.out)) hb); clear BK144; clear HB; have BK144 := n0_; have HB := n1_; clear n0_ n1_; (try clear hb); (try clear hb2); (try clear hk); (try clear hi)))
          go_ret
          exact ⟨by first | rfl | (simp [errW_none, errW_some] <;> rfl) | (simp [*, errW_none, errW_some] <;> rfl), by repeat (first | (with_reducible first | exact HB.out | apply below_alloc | apply pw_below_drewN | apply below_drew1 | refine below_set ?_ GE144.out) | exact HB.out)⟩
      · rw [if_neg c6] at H
        have c6b0 : decide (t146 ≤ 256) = false := decide_eq_false c6
        clear c6
        obtain rfl := Option.some.inj H
        go_enter Tryd.func27, Tryd.ntmps27
        go_wp2_with (first | ((with_reducible refine gate_dst (N := 1) rfl ?_); (try (refine gate_guard (by rfl) ?_; dsimp only)); refine box_event ?hg (N := 1) ?hd (cs := #[.string a0_0, .slice A0_1 l0_1.length c0_1]) (t := 24) ?hr ?_; (case hd => rfl); (case hg => rfl); (case hr => first | (go_simp; done) | (go_simp; rfl)); intro gb144 hg w18 hbox hb; have n0_ := Aside0.mk (below_step (by repeat (first | (with_reducible first | exact HB.out | apply below_alloc | apply pw_below_drewN | apply below_drew1) | exact HB.out)) hb); have n1_ := Aside0.mk (hbox); have n2_ := Aside0.mk ((by rw [hg]; exact (below_size (by repeat (first | (with_reducible first | exact HB.out | apply below_alloc | apply pw_below_drewN | apply below_drew1) | exact HB.out))) : w.heap.size ≤ gb144)); have n3_ := Aside0.mk ((by rw [hg]; exact (below_size (by repeat (first | (with_reducible first | exact HB.out | apply below_alloc | apply pw_below_drewN | apply below_drew1) | exact HB.out))) : w.heap.size ≤ gb144)); clear HB; have HB := n0_; have BK144 := n1_; have GW144 := n2_; have GE144 := n3_; clear n0_ n1_ n2_ n3_; clear hb hbox hg; have hcz19_0 : w18.cell? ⟨gb144, 0, none⟩ = some (.string a0_0) := (blk_cell BK144.out 0).trans rfl; have hcz19_1 : w18.cell? ⟨gb144, 1, none⟩ = some (.slice A0_1 l0_1.length c0_1) := (blk_cell BK144.out 1).trans rfl; have hfz19_0 := blk_frozen BK144.out 0; have hfz19_1 := blk_frozen BK144.out 1) | ((with_reducible refine gate_callee (f := 48) rfl ?_); refine goesL_ (some 5) rfl rfl Tryd.func48 (by kernel_rfl) rfl #[.string a0_0] rfl (by (try simp only [List.map_toArray, List.map_cons, List.map_nil]); first | done | rfl | (simp only [List.length_drop, List.length_take]; rfl)) ?_; (with_reducible refine (marquetryref16_named.calls k a0_0 true _ A2.out).mono ?_); rintro e w' ⟨rfl, ⟨nd, rfl⟩⟩; refine ⟨_, rfl, ?_⟩) | (go_at_call 21; (with_reducible refine (marquetryref16_Count.calls k _ _ l0_1 t146 _ ?side1 ?side2 A5.out).mono ?_); (case side1 => repeat (first | exact (Kd.C_below HR0_1.out (by repeat (first | (with_reducible first | exact HB.out | apply below_alloc | apply pw_below_drewN | apply below_drew1 | refine below_set ?_ GE144.out) | exact HB.out))) | (with_reducible refine Kd.C_alloc ?_ _) | (with_reducible refine Kd.C_drewN ?_ _) | (with_reducible refine Kd.C_drew ?_))); (case side2 => exact HC0_1.out); rintro e w' ⟨rfl, ⟨nd, rfl⟩⟩))
        go_ret
        exact ⟨by first | rfl | (simp [errW_none, errW_some] <;> rfl) | (simp [*, errW_none, errW_some] <;> rfl), by repeat (first | (with_reducible first | exact HB.out | apply below_alloc | apply pw_below_drewN | apply below_drew1 | refine below_set ?_ GE144.out) | exact HB.out)⟩
    · rw [if_neg c4] at H
      have c4b0 : decide (0 < (l0_1.length : Int)) = false := decide_eq_false c4
      have c4b1 : decide (0 < l0_1.length) = false := decide_eq_false (by omega)
      clear c4
      obtain rfl := Option.some.inj H
      go_enter Tryd.func27, Tryd.ntmps27
      go_wp2_with (first | ((with_reducible refine gate_dst (N := 1) rfl ?_); (try (refine gate_guard (by rfl) ?_; dsimp only)); refine box_event ?hg (N := 1) ?hd (cs := #[.string a0_0, .slice A0_1 l0_1.length c0_1]) (t := 24) ?hr ?_; (case hd => rfl); (case hg => rfl); (case hr => first | (go_simp; done) | (go_simp; rfl)); intro gb144 hg w20 hbox hb; have n0_ := Aside0.mk (below_step (by repeat (first | (with_reducible first | exact HB.out | apply below_alloc | apply pw_below_drewN | apply below_drew1) | exact HB.out)) hb); have n1_ := Aside0.mk (hbox); have n2_ := Aside0.mk ((by rw [hg]; exact (below_size (by repeat (first | (with_reducible first | exact HB.out | apply below_alloc | apply pw_below_drewN | apply below_drew1) | exact HB.out))) : w.heap.size ≤ gb144)); have n3_ := Aside0.mk ((by rw [hg]; exact (below_size (by repeat (first | (with_reducible first | exact HB.out | apply below_alloc | apply pw_below_drewN | apply below_drew1) | exact HB.out))) : w.heap.size ≤ gb144)); clear HB; have HB := n0_; have BK144 := n1_; have GW144 := n2_; have GE144 := n3_; clear n0_ n1_ n2_ n3_; clear hb hbox hg; have hcz21_0 : w20.cell? ⟨gb144, 0, none⟩ = some (.string a0_0) := (blk_cell BK144.out 0).trans rfl; have hcz21_1 : w20.cell? ⟨gb144, 1, none⟩ = some (.slice A0_1 l0_1.length c0_1) := (blk_cell BK144.out 1).trans rfl; have hfz21_0 := blk_frozen BK144.out 0; have hfz21_1 := blk_frozen BK144.out 1) | ((with_reducible refine gate_callee (f := 48) rfl ?_); refine goesL_ (some 5) rfl rfl Tryd.func48 (by kernel_rfl) rfl #[.string a0_0] rfl (by (try simp only [List.map_toArray, List.map_cons, List.map_nil]); first | done | rfl | (simp only [List.length_drop, List.length_take]; rfl)) ?_; (with_reducible refine (marquetryref16_named.calls k a0_0 true _ A2.out).mono ?_); rintro e w' ⟨rfl, ⟨nd, rfl⟩⟩; refine ⟨_, rfl, ?_⟩))
      go_ret
      exact ⟨by first | rfl | (simp [errW_none, errW_some] <;> rfl) | (simp [*, errW_none, errW_some] <;> rfl), by repeat (first | (with_reducible first | exact HB.out | apply below_alloc | apply pw_below_drewN | apply below_drew1 | refine below_set ?_ GE144.out) | exact HB.out)⟩
  · replace c3 := Bool.eq_false_iff.mpr c3
    subst c3
    have H1 : (some false) = some r := by rw [if_neg (show ¬ (false = true) by decide)] at H; exact H
    clear H
    have H := H1
    clear H1
    obtain rfl := Option.some.inj H
    go_enter Tryd.func27, Tryd.ntmps27
    go_wp2_with (first | ((with_reducible refine gate_dst (N := 1) rfl ?_); (try (refine gate_guard (by rfl) ?_; dsimp only)); refine box_event ?hg (N := 1) ?hd (cs := #[.string a0_0, .slice A0_1 l0_1.length c0_1]) (t := 24) ?hr ?_; (case hd => rfl); (case hg => rfl); (case hr => first | (go_simp; done) | (go_simp; rfl)); intro gb144 hg w22 hbox hb; have n0_ := Aside0.mk (below_step (by repeat (first | (with_reducible first | exact HB.out | apply below_alloc | apply pw_below_drewN | apply below_drew1) | exact HB.out)) hb); have n1_ := Aside0.mk (hbox); have n2_ := Aside0.mk ((by rw [hg]; exact (below_size (by repeat (first | (with_reducible first | exact HB.out | apply below_alloc | apply pw_below_drewN | apply below_drew1) | exact HB.out))) : w.heap.size ≤ gb144)); have n3_ := Aside0.mk ((by rw [hg]; exact (below_size (by repeat (first | (with_reducible first | exact HB.out | apply below_alloc | apply pw_below_drewN | apply below_drew1) | exact HB.out))) : w.heap.size ≤ gb144)); clear HB; have HB := n0_; have BK144 := n1_; have GW144 := n2_; have GE144 := n3_; clear n0_ n1_ n2_ n3_; clear hb hbox hg; have hcz23_0 : w22.cell? ⟨gb144, 0, none⟩ = some (.string a0_0) := (blk_cell BK144.out 0).trans rfl; have hcz23_1 : w22.cell? ⟨gb144, 1, none⟩ = some (.slice A0_1 l0_1.length c0_1) := (blk_cell BK144.out 1).trans rfl; have hfz23_0 := blk_frozen BK144.out 0; have hfz23_1 := blk_frozen BK144.out 1) | ((with_reducible refine gate_callee (f := 48) rfl ?_); refine goesL_ (some 5) rfl rfl Tryd.func48 (by kernel_rfl) rfl #[.string a0_0] rfl (by (try simp only [List.map_toArray, List.map_cons, List.map_nil]); first | done | rfl | (simp only [List.length_drop, List.length_take]; rfl)) ?_; (with_reducible refine (marquetryref16_named.calls k a0_0 false _ A2.out).mono ?_); rintro e w' ⟨rfl, ⟨nd, rfl⟩⟩; refine ⟨_, rfl, ?_⟩))
    go_ret
    exact ⟨by first | rfl | (simp [errW_none, errW_some] <;> rfl) | (simp [*, errW_none, errW_some] <;> rfl), by repeat (first | (with_reducible first | exact HB.out | apply below_alloc | apply pw_below_drewN | apply below_drew1 | refine below_set ?_ GE144.out) | exact HB.out)⟩

end Go.Proofs.YtnbmgljcnbhinaaDoor.H
end
