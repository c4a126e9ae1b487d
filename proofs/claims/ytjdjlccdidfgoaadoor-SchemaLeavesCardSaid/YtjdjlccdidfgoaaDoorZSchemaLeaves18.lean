/- Texts of the claim, packed: H38, H39. -/
import Derived.Lib.Hide
import Derived.Test.YtjdjlccdidfgoaaDoorZSchemaLeaves7
import Derived.Test.YtjdjlccdidfgoaaDoorZSchemaLeaves14
import Derived.Test.YtjdjlccdidfgoaaDoorZSchemaLeaves15
import Derived.Test.YtjdjlccdidfgoaaDoorZSchemaLeaves16
import Derived.Test.YtjdjlccdidfgoaaDoorZSchemaLeaves17
section
-- Laid by this session's hprint.py, out of the kit's print.py and texts of the session. Not trusted: Lean checks it.
namespace Go.Proofs.YtjdjlccdidfgoaaDoor.H
open Go.RowKit Go.Proofs.YtjdjlccdidfgoaaDoorW.PrintWords Go.Proofs.YtjdjlccdidfgoaaDoorW.PrintLast Go.Proofs.YtjdjlccdidfgoaaDoorW.PrintMore
attribute [local go_sem] max2_int min2_int max_two min_two max_three min_three max_four min_four   -- for this text's walks alone
set_option linter.unusedVariables false
set_option linter.unusedSimpArgs false

-- OVPART Derived.Lib.Hide
/-! ### schema_Find: function 21 -/
def schema_Find.f (a0_0 : ByteArray) (l0_1 : List S62) (l1 : List ByteArray) : Option (Int × Bool) := (schema_Leaves.f a0_0 l0_1).bind fun L => some (max (idxL L l1 0) 0, decide (idxL L l1 0 ≥ 0))
set_option maxHeartbeats 8000000 in
set_option maxRecDepth 100000 in
theorem schema_Find.calls (a0_0 : ByteArray) (A0_1 : Option Addr) (c0_1 : Nat) (l0_1 : List (S62)) (A1 : Option Addr) (c1 : Nat) (l1 : List ByteArray) (r1 : Int) (r2 : Bool) (w : World) (hr0_1 : Kd.C k62 w A0_1 l0_1.length l0_1) (hc0_1 : l0_1.length ≤ c0_1) (hr1 : Kd.C Kd.string w A1 l1.length l1) (hc1 : l1.length ≤ c1) (h : schema_Find.f a0_0 l0_1 l1 = some (r1, r2)) (hT_ : Tabs_ w := by repeat (first | exact hT_ | exact Tabs_.below hT_ HB.out | exact Tabs_.below hT_ HB | with_reducible refine Tabs_.alloc ?_ _ | with_reducible refine Tabs_.drewN ?_ _ | with_reducible refine Tabs_.drew ?_)) :
    Calls Tryd.prog 21 #[.agg #[.string a0_0, .slice A0_1 l0_1.length c0_1], .slice A1 l1.length c1] w fun e w' => e = .returned (.tuple #[.int .i64 r1, .bool r2]) ∧ Below w.heap.size w w' := by
  unfold schema_Find.f at h
  obtain ⟨L, hL, h⟩ := Option.bind_eq_some_iff.mp h
  obtain ⟨rfl, rfl⟩ : max (idxL L l1 0) 0 = r1 ∧ decide (idxL L l1 0 ≥ 0) = r2 := by simpa using h
  have hB1 : Below w.heap.size w (w.alloc (.cells #[.string a0_0, .slice A0_1 l0_1.length c0_1] 24)) := below_alloc (Below.refl _ _) _
  have hB2 : Below w.heap.size w ((w.alloc (.cells #[.string a0_0, .slice A0_1 l0_1.length c0_1] 24)).alloc (.cells #[.slice A1 l1.length c1] 44)) := below_alloc hB1 _
  have hk1 := blk_alloc (blk_new w (.cells #[.string a0_0, .slice A0_1 l0_1.length c0_1] 24)) (.cells #[.slice A1 l1.length c1] 44)
  have hk2 := blk_new (w.alloc (.cells #[.string a0_0, .slice A0_1 l0_1.length c0_1] 24)) (.cells #[.slice A1 l1.length c1] 44)
  have hsz := World.size_alloc w (.cells #[.string a0_0, .slice A0_1 l0_1.length c0_1] 24)
  have hT2 := Tabs_.below hT_ hB2
  have hR2 := Kd.C_below hr0_1 hB2
  have hP2 := Kd.C_below hr1 hB2
  have hc0 := blk_cell hk1 0
  have hc1 := blk_cell hk1 1
  have hmx : ∀ a b : Int, (if a < b then b else a) = max a b := fun a b => by omega
  clear h hr0_1 hr1 hB1 hT_
  go_enter Tryd.func21, Tryd.ntmps21
  go_wp2_with fail
  refine (schema_Leaves.calls a0_0 A0_1 c0_1 l0_1 L _ hR2 hc0_1 hL hT2).mono ?_
  rintro e w3 ⟨v, rfl, hS, hb3⟩
  obtain ⟨A, cc, rfl, hcc, hL3⟩ := Kd.S_reads hS
  have HIX := Lib.hid (index_lv (w.heap.size + 1) l1 A1 c1 (by assumption) L A cc w3 hL3 (by rw [← hsz]; exact blk_below hk2 hb3) (Kd.C_below hP2 hb3))
  have HB3 := Lib.hid (below_step hB2 hb3)
  clear hL hS hL3 hcc hk1 hk2 hB2 hP2 hT2 hR2 hb3 hc0 hc1
  go_wp2_with fail
  refine HIX.out.mono ?_
  rintro e w4 ⟨rfl, hb4⟩
  have HB4 := Lib.hid (below_step HB3.out hb4)
  clear hb4
  go_wp2_with fail
  go_ret2
  exact ⟨rfl, HB4.out⟩


end Go.Proofs.YtjdjlccdidfgoaaDoor.H
end
section
-- Laid by this session's hprint.py, out of the kit's print.py and texts of the session. Not trusted: Lean checks it.
namespace Go.Proofs.YtjdjlccdidfgoaaDoor.H
open Go.RowKit Go.Proofs.YtjdjlccdidfgoaaDoorW.PrintWords Go.Proofs.YtjdjlccdidfgoaaDoorW.PrintLast Go.Proofs.YtjdjlccdidfgoaaDoorW.PrintMore
attribute [local go_sem] max2_int min2_int max_two min_two max_three min_three max_four min_four   -- for this text's walks alone
set_option linter.unusedVariables false
set_option linter.unusedSimpArgs false

/-! ### marquetrylaw16_SchemaLeaves: function 6 -/
mutual
def marquetrylaw16_SchemaLeaves.j0 : Nat → List ByteArray → Bool → ByteArray → List (S62) → Option (Bool)
  | 0, _, _, _, _ => none
  | k + 1, x1, x22, x207000, x207001 => if x22 = true then (some true) else ((schema_Leaves.f x207000 x207001).bind fun t208 => ((marquetryref16_Leaves.f k x207000 x207001).bind fun t211 => (if (t208.length : Int) = (t211.length : Int) then (marquetrylaw16_SchemaLeaves.l0 k x1 t208 t211 0 false 0 x207000 x207001) else (some false))))
def marquetrylaw16_SchemaLeaves.l0 : Nat → List ByteArray → List (S52) → List (S52) → Int → Bool → Int → ByteArray → List (S62) → Option (Bool)
  | 0, _, _, _, _, _, _, _, _ => none
  | k + 1, x1, x5, x6, x7, x8, x9, x207000, x207001 => if x9 < (x5.length : Int) then (if 0 ≤ x9 then (if x9 < (x6.length : Int) then ((marquetryref16_SameLeaf.f k ((rd_T52 x5 x9).f0) ((rd_T52 x5 x9).f1) ((rd_T52 x5 x9).f2) ((rd_T52 x5 x9).f3) ((rd_T52 x5 x9).f4.f0) ((rd_T52 x5 x9).f4.f1) ((rd_T52 x6 x9).f0) ((rd_T52 x6 x9).f1) ((rd_T52 x6 x9).f2) ((rd_T52 x6 x9).f3) ((rd_T52 x6 x9).f4.f0) ((rd_T52 x6 x9).f4.f1)).bind fun t218 => (if t218 = true then (marquetrylaw16_SchemaLeaves.l1 k x1 x5 x6 x7 x8 x9 ((x1.length : Int) == (((rd_T52 x6 x9).f0).length : Int)) 0 x207000 x207001) else (some false))) else (none)) else (none)) else ((schema_Find.f x207000 x207001 x1).bind fun bt214 => (if bt214.1 = x7 then (some (bt214.2 == x8)) else (some false)))
def marquetrylaw16_SchemaLeaves.l1 : Nat → List ByteArray → List (S52) → List (S52) → Int → Bool → Int → Bool → Int → ByteArray → List (S62) → Option (Bool)
  | 0, _, _, _, _, _, _, _, _, _, _ => none
  | k + 1, x1, x5, x6, x7, x8, x9, x10, x11, x207000, x207001 => if x10 = true then (if x11 < (x1.length : Int) then (if 0 ≤ x11 then (if 0 ≤ x9 then (if x9 < (x6.length : Int) then (if x11 < (((rd_T52 x6 x9).f0).length : Int) then (marquetrylaw16_SchemaLeaves.l1 k x1 x5 x6 x7 x8 x9 ((rdOf ByteArray.empty x1 x11).toList == (rdOf ByteArray.empty ((rd_T52 x6 x9).f0) x11).toList) (wrap64 (x11 + 1)) x207000 x207001) else (none)) else (none)) else (none)) else (none)) else (marquetrylaw16_SchemaLeaves.l0 k x1 x5 x6 x9 true (wrap64 (x9 + 1)) x207000 x207001)) else (marquetrylaw16_SchemaLeaves.l0 k x1 x5 x6 x7 x8 (wrap64 (x9 + 1)) x207000 x207001)
end
def marquetrylaw16_SchemaLeaves.f (k : Nat) (a0_0 : ByteArray) (l0_1 : List (S62)) (l1 : List ByteArray) : Option (Bool) := (marquetryref16_Count.f k l0_1).bind fun t207 => (if t207 > 60 then (marquetrylaw16_SchemaLeaves.j0 k l1 true a0_0 l0_1) else (marquetrylaw16_SchemaLeaves.j0 k l1 (decide ((l1.length : Int) > 40)) a0_0 l0_1))
def marquetrylaw16_SchemaLeaves.T11 : Bool × List (List Nat × List Nat) := (true, [([], []), ([], []), ([0, 1], [0, 1]), ([2], [2]), ([], []), ([], []), ([4, 5], [4, 5]), ([6], [6]), ([3, 7], [3, 7]), ([8], [8])])
def marquetrylaw16_SchemaLeaves.B11 : List Nat := [0, 0, 3, 7, 0, 0, 48, 112, 255, 511]
theorem marquetrylaw16_SchemaLeaves.tab11 : rtab .any (opsOf Tryd.f6 11) = marquetrylaw16_SchemaLeaves.T11 := by kernel_rfl
theorem marquetrylaw16_SchemaLeaves.bits11 : waitsOk marquetrylaw16_SchemaLeaves.T11.2 marquetrylaw16_SchemaLeaves.B11 = true := by kernel_rfl
def marquetrylaw16_SchemaLeaves.T17 : Bool × List (List Nat × List Nat) := (true, [([], []), ([], []), ([0, 1], [0, 1]), ([2], [2]), ([], []), ([], []), ([4, 5], [4, 5]), ([6], [6]), ([7], [7]), ([], []), ([8, 9], [8, 9]), ([10], [10]), ([3, 11], [3, 11]), ([12, 0, 1, 2, 3, 4, 5, 6, 7, 8, 9, 10, 11, 12], [12])])
def marquetrylaw16_SchemaLeaves.B17 : List Nat := [0, 0, 3, 7, 0, 0, 48, 112, 240, 0, 1008, 2032, 4095, 8191]
theorem marquetrylaw16_SchemaLeaves.tab17 : rtab .any (opsOf Tryd.f6 17) = marquetrylaw16_SchemaLeaves.T17 := by kernel_rfl
theorem marquetrylaw16_SchemaLeaves.bits17 : waitsOk marquetrylaw16_SchemaLeaves.T17.2 marquetrylaw16_SchemaLeaves.B17 = true := by kernel_rfl
set_option maxHeartbeats 8000000 in
set_option maxRecDepth 100000 in
theorem marquetrylaw16_SchemaLeaves.calls (k : Nat) (a0_0 : ByteArray) (A0_1 : Option Addr) (c0_1 : Nat) (l0_1 : List (S62)) (A1 : Option Addr) (c1 : Nat) (l1 : List ByteArray) (r : Bool) (w : World) (hr0_1 : Kd.C k62 w A0_1 l0_1.length l0_1) (hc0_1 : l0_1.length ≤ c0_1) (hr1 : Kd.C Kd.string w A1 l1.length l1) (hc1 : l1.length ≤ c1) (h : marquetrylaw16_SchemaLeaves.f k a0_0 l0_1 l1 = some r) (hT_ : Tabs_ w := by repeat (first | exact hT_ | exact Tabs_.below hT_ HB.out | exact Tabs_.below hT_ HB | with_reducible refine Tabs_.alloc ?_ _ | with_reducible refine Tabs_.drewN ?_ _ | with_reducible refine Tabs_.drew ?_)) :
    Calls Tryd.prog 6 #[.agg #[.string a0_0, .slice A0_1 l0_1.length c0_1], .slice A1 l1.length c1] w fun e w' => e = .returned (.bool r) ∧ Below w.heap.size w w' := by
  have hu24 := Tryd.underlying24
  have hu52 := Tryd.underlying52
  have HR0_1 := Aside0.mk hr0_1
  have HC0_1 := Aside0.mk hc0_1
  clear hr0_1 hc0_1
  have HR1 := Aside0.mk hr1
  have HC1 := Aside0.mk hc1
  clear hr1 hc1
  have HB := Aside0.mk (Below.refl w.heap.size w)
  have H : ((marquetryref16_Count.f k l0_1).bind fun t207 => (if t207 > 60 then (marquetrylaw16_SchemaLeaves.j0 k l1 true a0_0 l0_1) else (marquetrylaw16_SchemaLeaves.j0 k l1 (decide ((l1.length : Int) > 40)) a0_0 l0_1))) = some r := h
  clear h
  have HC3 := Aside0.mk H
  clear H
  go_enter Tryd.func6, Tryd.ntmps6
  go_upto_region 1 with (first | ((with_reducible refine gate_dst (N := 2) rfl ?_); (try (refine gate_guard (by rfl) ?_; dsimp only)); refine box_event ?hg (N := 2) ?hd (cs := #[.string a0_0, .slice A0_1 l0_1.length c0_1]) (t := 24) ?hr ?_; (case hd => rfl); (case hg => rfl); (case hr => first | (go_simp; done) | (go_simp; rfl)); intro gb206 hg w4 hbox hb; have n0_ := Aside0.mk (below_step (by repeat (first | (with_reducible first | exact HB.out | apply below_alloc | apply pw_below_drewN | apply below_drew1) | exact HB.out)) hb); have n1_ := Aside0.mk (hbox); have n2_ := Aside0.mk ((by rw [hg]; exact (below_size (by repeat (first | (with_reducible first | exact HB.out | apply below_alloc | apply pw_below_drewN | apply below_drew1) | exact HB.out))) : w.heap.size ≤ gb206)); have n3_ := Aside0.mk ((by rw [hg]; exact (below_size (by repeat (first | (with_reducible first | exact HB.out | apply below_alloc | apply pw_below_drewN | apply below_drew1) | exact HB.out))) : w.heap.size ≤ gb206)); clear HB; have HB := n0_; have BK206 := n1_; have GW206 := n2_; have GE206 := n3_; clear n0_ n1_ n2_ n3_; clear hb hbox hg))
  (try simp only [Act.put, List.setIfInBounds_toArray, List.set_cons_zero, List.set_cons_succ])
  go_cut [22] (fun v22 wc => ∃ (kq : Nat) (x22_2 : Bool), v22 = .bool x22_2 ∧ Aside0 (marquetrylaw16_SchemaLeaves.j0 kq l1 x22_2 a0_0 l0_1 = some r) ∧ Aside0 (kq ≤ k) ∧ Aside0 (wc.heap[gb206]? = some (.cells #[.string a0_0, (.slice A0_1 l0_1.length c0_1)] 24 (0, 0))) ∧ Aside0 (Below w.heap.size w wc))
  case first =>
    have H := HC3.out
    clear HC3
    replace H := Option.bind_eq_some_iff.mp H
    obtain ⟨t207, A50, H⟩ := H
    replace H : (if t207 > 60 then (marquetrylaw16_SchemaLeaves.j0 k l1 true a0_0 l0_1) else (marquetrylaw16_SchemaLeaves.j0 k l1 (decide ((l1.length : Int) > 40)) a0_0 l0_1)) = some r := H
    have A5 := Aside0.mk A50
    clear A50
    by_cases c6 : t207 > 60
    · rw [if_pos c6] at H
      have c6b0 : decide (60 < t207) = true := decide_eq_true c6
      clear c6
      (first | rw [c6b0] | (simp only [i64_w, i32_w]; rw [c6b0]) | skip)
      have H' := Aside0.mk H
      clear H
      have hcz7_0 : w4.cell? ⟨gb206, 0, none⟩ = some (.string a0_0) := (blk_cell BK206.out 0).trans rfl
      have hcz7_1 : w4.cell? ⟨gb206, 1, none⟩ = some (.slice A0_1 l0_1.length c0_1) := (blk_cell BK206.out 1).trans rfl
      have hfz7_0 := blk_frozen BK206.out 0
      have hfz7_1 := blk_frozen BK206.out 1
      go_wp2_with (first | ((with_reducible refine gate_callee (f := 8) rfl ?_); refine goesL_ (some 16) rfl rfl Tryd.func8 (by kernel_rfl) rfl #[.slice A0_1 l0_1.length c0_1] rfl (by (try simp only [List.map_toArray, List.map_cons, List.map_nil]); first | done | rfl | (simp only [List.length_drop, List.length_take]; rfl)) ?_; (with_reducible refine (marquetryref16_Count.calls k _ _ l0_1 t207 _ ?side1 ?side2 A5.out).mono ?_); (case side1 => repeat (first | exact (Kd.C_below HR0_1.out HB.out) | (with_reducible refine Kd.C_alloc ?_ _) | (with_reducible refine Kd.C_drewN ?_ _) | (with_reducible refine Kd.C_drew ?_))); (case side2 => exact HC0_1.out); rintro e w' ⟨rfl, ⟨nd, rfl⟩⟩; refine ⟨_, rfl, ?_⟩))
      go_meet
      case rel => exact ⟨_, (true), (by first | rfl | (simp; done) | (simp [*]; done)), H', ⟨by first | omega | exact Nat.le_refl _⟩, ⟨by (with_reducible repeat (first | refine blk_drewN ?_ _ | refine blk_drew ?_ | refine blk_alloc ?_ _)); exact BK206.out⟩, ⟨by repeat (first | (with_reducible first | exact HB.out | apply below_alloc | apply pw_below_drewN | apply below_drew1 | refine below_set ?_ GE206.out) | exact HB.out)⟩⟩
    · rw [if_neg c6] at H
      have c6b0 : decide (60 < t207) = false := decide_eq_false c6
      clear c6
      (first | rw [c6b0] | (simp only [i64_w, i32_w]; rw [c6b0]) | skip)
      have H' := Aside0.mk H
      clear H
      have hcz8_0 : w4.cell? ⟨gb206, 0, none⟩ = some (.string a0_0) := (blk_cell BK206.out 0).trans rfl
      have hcz8_1 : w4.cell? ⟨gb206, 1, none⟩ = some (.slice A0_1 l0_1.length c0_1) := (blk_cell BK206.out 1).trans rfl
      have hfz8_0 := blk_frozen BK206.out 0
      have hfz8_1 := blk_frozen BK206.out 1
      go_wp2_with (first | ((with_reducible refine gate_callee (f := 8) rfl ?_); refine goesL_ (some 16) rfl rfl Tryd.func8 (by kernel_rfl) rfl #[.slice A0_1 l0_1.length c0_1] rfl (by (try simp only [List.map_toArray, List.map_cons, List.map_nil]); first | done | rfl | (simp only [List.length_drop, List.length_take]; rfl)) ?_; (with_reducible refine (marquetryref16_Count.calls k _ _ l0_1 t207 _ ?side1 ?side2 A5.out).mono ?_); (case side1 => repeat (first | exact (Kd.C_below HR0_1.out HB.out) | (with_reducible refine Kd.C_alloc ?_ _) | (with_reducible refine Kd.C_drewN ?_ _) | (with_reducible refine Kd.C_drew ?_))); (case side2 => exact HC0_1.out); rintro e w' ⟨rfl, ⟨nd, rfl⟩⟩; refine ⟨_, rfl, ?_⟩))
      go_meet
      case rel => exact ⟨_, (decide ((l1.length : Int) > 40)), (by first | rfl | (simp; done) | (simp [*]; done)), H', ⟨by first | omega | exact Nat.le_refl _⟩, ⟨by (with_reducible repeat (first | refine blk_drewN ?_ _ | refine blk_drew ?_ | refine blk_alloc ?_ _)); exact BK206.out⟩, ⟨by repeat (first | (with_reducible first | exact HB.out | apply below_alloc | apply pw_below_drewN | apply below_drew1 | refine below_set ?_ GE206.out) | exact HB.out)⟩⟩
  case rest =>
    clear HC3
    try clear c1
    try clear p2
    try clear c6
    try clear c6b0
    try clear c8
    try clear hcz7_0
    try clear hcz7_1
    try clear hcz8_0
    try clear hcz8_1
    try clear hfz7_0
    try clear hfz7_1
    try clear hfz8_0
    try clear hfz8_1
    obtain ⟨kq, x22_2, rfl, HA, HJ2, BK206, HB⟩ := hcut
    cases kq with
    | zero => exact absurd HA.out (by simp [marquetrylaw16_SchemaLeaves.j0])
    | succ kj2 =>
      have H := HA.out
      clear HA
      simp only [marquetrylaw16_SchemaLeaves.j0] at H
      by_cases c9 : x22_2 = true
      · subst c9
        have H1 : (some true) = some r := by rw [if_pos rfl] at H; exact H
        clear H
        have H := H1
        clear H1
        obtain rfl := Option.some.inj H
        go_wp2
        go_ret
        exact ⟨by first | rfl | (simp [errW_none, errW_some] <;> rfl) | (simp [*, errW_none, errW_some] <;> rfl), by repeat (first | (with_reducible first | exact HB.out | apply below_alloc | apply pw_below_drewN | apply below_drew1 | refine below_set ?_ GE206.out) | exact HB.out)⟩
      · replace c9 := Bool.eq_false_iff.mpr c9
        subst c9
        have H1 : ((schema_Leaves.f a0_0 l0_1).bind fun t208 => ((marquetryref16_Leaves.f kj2 a0_0 l0_1).bind fun t211 => (if (t208.length : Int) = (t211.length : Int) then (marquetrylaw16_SchemaLeaves.l0 kj2 l1 t208 t211 0 false 0 a0_0 l0_1) else (some false)))) = some r := by rw [if_neg (show ¬ (false = true) by decide)] at H; exact H
        clear H
        have H := H1
        clear H1
        replace H := Option.bind_eq_some_iff.mp H
        obtain ⟨t208, A100, H⟩ := H
        replace H : ((marquetryref16_Leaves.f kj2 a0_0 l0_1).bind fun t211 => (if (t208.length : Int) = (t211.length : Int) then (marquetrylaw16_SchemaLeaves.l0 kj2 l1 t208 t211 0 false 0 a0_0 l0_1) else (some false))) = some r := H
        have A10 := Aside0.mk A100
        clear A100
        replace H := Option.bind_eq_some_iff.mp H
        obtain ⟨t211, A110, H⟩ := H
        replace H : (if (t208.length : Int) = (t211.length : Int) then (marquetrylaw16_SchemaLeaves.l0 kj2 l1 t208 t211 0 false 0 a0_0 l0_1) else (some false)) = some r := H
        have A11 := Aside0.mk A110
        clear A110
        by_cases c12 : (t208.length : Int) = (t211.length : Int)
        · rw [if_pos c12] at H
          have c12b0 : ((t208.length : Int) == (t211.length : Int)) = true := beq_iff_eq.mpr c12
          have c12b1 : ((t208.length : Int) != (t211.length : Int)) = false := bne_eq_false_iff_eq.mpr c12
          have c12b2 : (t208.length == t211.length) = true := by first | simpa using c12 | (simp at c12 ⊢; omega)
          clear c12
          have H' := Aside0.mk H
          clear H
          have hcz13_0 : wc.cell? ⟨gb206, 0, none⟩ = some (.string a0_0) := (blk_cell BK206.out 0).trans rfl
          have hcz13_1 : wc.cell? ⟨gb206, 1, none⟩ = some (.slice A0_1 l0_1.length c0_1) := (blk_cell BK206.out 1).trans rfl
          have hfz13_0 := blk_frozen BK206.out 0
          have hfz13_1 := blk_frozen BK206.out 1
          go_wp2_with (first | ((with_reducible refine gate_callee (f := 18) rfl ?_); refine goesL_ (some 24) rfl rfl Tryd.func18 (by kernel_rfl) rfl #[.agg #[.string a0_0, .slice A0_1 l0_1.length c0_1]] rfl (by (try simp only [List.map_toArray, List.map_cons, List.map_nil]); first | done | rfl | (simp only [List.length_drop, List.length_take]; rfl)) ?_; (with_reducible refine (schema_Leaves.calls a0_0 _ _ l0_1 t208 _ ?side1 ?side2 A10.out).mono ?_); (case side1 => repeat (first | exact (Kd.C_below HR0_1.out HB.out) | (with_reducible refine Kd.C_alloc ?_ _) | (with_reducible refine Kd.C_drewN ?_ _) | (with_reducible refine Kd.C_drew ?_))); (case side2 => exact HC0_1.out); rintro e w14 ⟨v209, rfl, ho0, hb⟩; refine ⟨_, rfl, ?_⟩; have n0_ := Aside0.mk (Kd.N_lower (Kd.N_mono (ok' := fun k_ => k_ ≠ gb206) (Kd.S_N (Kd.S_bound ho0)) (fun k_ hk_ => (Kd.freshB (g := gb206) (o := .cells #[.string a0_0, .slice A0_1 l0_1.length c0_1] 24 (0, 0)) (by (with_reducible repeat (first | refine blk_drewN ?_ _ | refine blk_drew ?_ | refine blk_alloc ?_ _)); exact BK206.out) k_ hk_.2.1))) (below_size (by repeat (first | (with_reducible first | exact HB.out | apply below_alloc | apply pw_below_drewN | apply below_drew1 | refine below_set ?_ GE206.out) | exact HB.out)))); have n1_ := Aside0.mk (blk_below (g := gb206) (o := .cells #[.string a0_0, .slice A0_1 l0_1.length c0_1] 24 (0, 0)) (by (with_reducible repeat (first | refine blk_drewN ?_ _ | refine blk_drew ?_ | refine blk_alloc ?_ _)); exact BK206.out) hb); have n2_ := Aside0.mk (below_step (by repeat (first | (with_reducible first | exact HB.out | apply below_alloc | apply pw_below_drewN | apply below_drew1 | refine below_set ?_ GE206.out) | exact HB.out)) hb); clear BK206; clear HB; have HO210 := n0_; have BK206 := n1_; have HB := n2_; clear n0_ n1_ n2_; (try clear hb); (try clear hb2); (try clear hk); (try clear hi); (try clear ho0); have hcz15_0 : w14.cell? ⟨gb206, 0, none⟩ = some (.string a0_0) := (blk_cell BK206.out 0).trans rfl; have hcz15_1 : w14.cell? ⟨gb206, 1, none⟩ = some (.slice A0_1 l0_1.length c0_1) := (blk_cell BK206.out 1).trans rfl; have hfz15_0 := blk_frozen BK206.out 0; have hfz15_1 := blk_frozen BK206.out 1) | ((with_reducible refine gate_callee (f := 19) rfl ?_); refine goesL_ (some 26) rfl rfl Tryd.func19 (by kernel_rfl) rfl #[.agg #[.string a0_0, .slice A0_1 l0_1.length c0_1]] rfl (by (try simp only [List.map_toArray, List.map_cons, List.map_nil]); first | done | rfl | (simp only [List.length_drop, List.length_take]; rfl)) ?_; (with_reducible refine (marquetryref16_Leaves.calls kj2 a0_0 _ _ l0_1 t211 _ ?side1 ?side2 A11.out).mono ?_); (case side1 => repeat (first | exact (Kd.C_below HR0_1.out HB.out) | (with_reducible refine Kd.C_alloc ?_ _) | (with_reducible refine Kd.C_drewN ?_ _) | (with_reducible refine Kd.C_drew ?_))); (case side2 => exact HC0_1.out); rintro e w16 ⟨v212, rfl, ho0, hb⟩; refine ⟨_, rfl, ?_⟩; have n0_ := Aside0.mk (Kd.N_elder' (by (with_reducible repeat (first | apply Kd.N_alloc | apply Kd.N_drewN | apply Kd.N_drew)); exact HO210.out) (Kd.N_base ho0) hb); have n1_ := Aside0.mk (Kd.N_lower (Kd.N_mono (ok' := fun k_ => some k_ ≠ (v209 : Value).ownBlock ∧ k_ ≠ gb206) ho0 (fun k_ hk_ => ⟨(Kd.fresh' (Kd.N_lt (by (with_reducible repeat (first | apply Kd.N_alloc | apply Kd.N_drewN | apply Kd.N_drew)); exact HO210.out)) k_ hk_), (Kd.freshB (g := gb206) (o := .cells #[.string a0_0, .slice A0_1 l0_1.length c0_1] 24 (0, 0)) (by (with_reducible repeat (first | refine blk_drewN ?_ _ | refine blk_drew ?_ | refine blk_alloc ?_ _)); exact BK206.out) k_ hk_)⟩)) (below_size (by repeat (first | (with_reducible first | exact HB.out | apply below_alloc | apply pw_below_drewN | apply below_drew1 | refine below_set ?_ GE206.out) | exact HB.out)))); have n2_ := Aside0.mk (blk_below (g := gb206) (o := .cells #[.string a0_0, .slice A0_1 l0_1.length c0_1] 24 (0, 0)) (by (with_reducible repeat (first | refine blk_drewN ?_ _ | refine blk_drew ?_ | refine blk_alloc ?_ _)); exact BK206.out) hb); have n3_ := Aside0.mk (below_step (by repeat (first | (with_reducible first | exact HB.out | apply below_alloc | apply pw_below_drewN | apply below_drew1 | refine below_set ?_ GE206.out) | exact HB.out)) hb); clear HO210; clear BK206; clear HB; have HO210 := n0_; have HO213 := n1_; have BK206 := n2_; have HB := n3_; clear n0_ n1_ n2_ n3_; (try clear hb); (try clear hb2); (try clear hk); (try clear hi); (try clear ho0); obtain ⟨Ao17, co17, eo17⟩ := Kd.N_slice HO210.out; subst eo17; obtain ⟨Ao18, co18, eo18⟩ := Kd.N_slice HO213.out; subst eo18))
          go_loopg [7, 8, 9] kj2 (fun kq v7 v8 v9 w' => ∃ (x7_2 : Int) (x8_2 : Bool) (x9_2 : Int), v7 = .int .i64 x7_2 ∧ v8 = .bool x8_2 ∧ v9 = .int .i64 x9_2 ∧ Aside0 (marquetrylaw16_SchemaLeaves.l0 kq l1 t208 t211 x7_2 x8_2 x9_2 a0_0 l0_1 = some r) ∧ Aside0 (kq ≤ kj2) ∧ Aside0 (Kd.N k52 52 w' w.heap.size (fun k_ => some k_ ≠ ((.slice Ao18 t211.length co18) : Value).ownBlock ∧ k_ ≠ gb206) (.slice Ao17 t208.length co17) t208) ∧ Aside0 (Kd.N k52 52 w' w.heap.size (fun k_ => some k_ ≠ ((.slice Ao17 t208.length co17) : Value).ownBlock ∧ k_ ≠ gb206) (.slice Ao18 t211.length co18) t211) ∧ Aside0 (w'.heap[gb206]? = some (.cells #[.string a0_0, (.slice A0_1 l0_1.length c0_1)] 24 (0, 0))) ∧ Aside0 (Below w.heap.size w w'))
          case atStart => exact ⟨(0), (false), (0), (by first | rfl | (simp; done) | (simp [*]; done)), (by first | rfl | (simp; done) | (simp [*]; done)), (by first | rfl | (simp; done) | (simp [*]; done)), H', ⟨Nat.le_refl _⟩, ⟨by (with_reducible repeat (first | apply Kd.N_alloc | apply Kd.N_drewN | apply Kd.N_drew)); exact Kd.N_mono HO210.out (fun _ hk => ⟨hk.2, hk.1⟩)⟩, ⟨by (with_reducible repeat (first | apply Kd.N_alloc | apply Kd.N_drewN | apply Kd.N_drew)); exact HO213.out⟩, ⟨by (with_reducible repeat (first | refine blk_drewN ?_ _ | refine blk_drew ?_ | refine blk_alloc ?_ _)); exact BK206.out⟩, ⟨by repeat (first | (with_reducible first | exact HB.out | apply below_alloc | apply pw_below_drewN | apply below_drew1 | refine below_set ?_ GE206.out) | exact HB.out)⟩⟩
          case round =>
            clear H'
            try clear c1
            try clear p2
            try clear c6
            try clear c6b0
            try clear c8
            try clear c9
            try clear c12
            try clear c12b0
            try clear c12b1
            try clear c12b2
            try clear c18
            try clear hcz13_0
            try clear hcz13_1
            try clear hcz15_0
            try clear hcz15_1
            try clear hcz7_0
            try clear hcz7_1
            try clear hcz8_0
            try clear hcz8_1
            try clear hfz13_0
            try clear hfz13_1
            try clear hfz15_0
            try clear hfz15_1
            try clear hfz7_0
            try clear hfz7_1
            try clear hfz8_0
            try clear hfz8_1
            try clear p2
            obtain ⟨x7_2, x8_2, x9_2, rfl, rfl, rfl, HA, HK2, HO_5, HO_6, BK206, HB⟩ := hrel
            cases gk with
            | zero => exact absurd HA.out (by simp [marquetrylaw16_SchemaLeaves.l0])
            | succ k2 =>
              have H := HA.out
              clear HA
              simp only [marquetrylaw16_SchemaLeaves.l0] at H
              by_cases c19 : x9_2 < (t208.length : Int)
              · rw [if_pos c19] at H
                have c19b0 : decide (x9_2 < (t208.length : Int)) = true := decide_eq_true c19
                clear c19
                by_cases c20 : 0 ≤ x9_2
                · rw [if_pos c20] at H
                  have c20b0 : decide (0 ≤ x9_2) = true := decide_eq_true c20
                  clear c20
                  by_cases c21 : x9_2 < (t211.length : Int)
                  · rw [if_pos c21] at H
                    have c21b0 : decide (x9_2 < (t211.length : Int)) = true := decide_eq_true c21
                    clear c21
                    replace H := Option.bind_eq_some_iff.mp H
                    obtain ⟨t218, A220, H⟩ := H
                    replace H : (if t218 = true then (marquetrylaw16_SchemaLeaves.l1 k2 l1 t208 t211 x7_2 x8_2 x9_2 ((l1.length : Int) == (((rd_T52 t211 x9_2).f0).length : Int)) 0 a0_0 l0_1) else (some false)) = some r := H
                    have A22 := Aside0.mk A220
                    clear A220
                    by_cases c23 : t218 = true
                    · subst c23
                      have H1 : (marquetrylaw16_SchemaLeaves.l1 k2 l1 t208 t211 x7_2 x8_2 x9_2 ((l1.length : Int) == (((rd_T52 t211 x9_2).f0).length : Int)) 0 a0_0 l0_1) = some r := by rw [if_pos rfl] at H; exact H
                      clear H
                      have H := H1
                      clear H1
                      have H' := Aside0.mk H
                      clear H
                      try go_wp2
                      have n0_ := Aside0.mk (Kd.N_drew HO_5.out)
                      have n1_ := Aside0.mk (Kd.N_drew HO_6.out)
                      have n2_ := Aside0.mk (blk_drew BK206.out)
                      have n3_ := Aside0.mk (below_drew1 HB.out)
                      clear HO_5
                      clear HO_6
                      clear BK206
                      clear HB
                      have HO_5 := n0_
                      have HO_6 := n1_
                      have BK206 := n2_
                      have HB := n3_
                      clear n0_ n1_ n2_ n3_
                      have p216 : 0 ≤ (x9_2 : Int) := of_decide_eq_true (by first | (with_reducible assumption) | assumption)
                      have q216 : x9_2 < (t208.length : Int) := of_decide_eq_true (by first | (with_reducible assumption) | assumption)
                      obtain ⟨ad216, A216_0, c216_0, A216_1, c216_1, e216, hx216_0, hx216_1, hx216_2, hx216_3, hx216_4, hx216_5, hl216_0, hi216_0, hl216_1, hi216_1⟩ := at_T52 (Kd.N_reads' HO_5.out).2.2 x9_2 p216 q216
                      cases e216
                      obtain ⟨ce216, hce216, hMe216, hcc216⟩ := Kd.N_get HO_5.out z52 x9_2 p216 (by first | exact q216 | exact of_decide_eq_true (by first | (with_reducible assumption) | assumption) | (have e_ := (Kd.N_reads' HO_5.out).1; omega))
                      obtain ⟨ua216_0, uc216_0, ua216_1, uc216_1, rfl, ul216_0, ge216_0, ul216_1, ge216_1⟩ := k52_openF hMe216
                      have hv216_0 := hcc216 0 _ rfl
                      rw [Nat.add_zero] at hv216_0
                      replace hv216_0 := Option.some.inj (hv216_0.symm.trans hx216_0)
                      injection hv216_0 with hva_ hvn_ hvc_
                      rw [hva_] at ge216_0
                      rw [hvc_] at ul216_0
                      have HL216_0 := Aside0.mk (show Kd.V Kd.string 9 _ w.heap.size _ _ ((rd_T52 t208 x9_2).f0) from Kd.V_mk ul216_0 ge216_0)
                      clear hva_ hvn_ hvc_ ge216_0 ul216_0
                      have hv216_1 := hcc216 1 _ rfl
                      rw [add_field _ _ 1 (by omega)] at hv216_1
                      replace hv216_1 := Option.some.inj (hv216_1.symm.trans hx216_1)
                      injection hv216_1 with hva_ hvn_ hvc_
                      rw [hva_] at ge216_1
                      rw [hvc_] at ul216_1
                      have HL216_1 := Aside0.mk (show Kd.V (Kd.int .i64) 40 _ w.heap.size _ _ ((rd_T52 t208 x9_2).f1) from Kd.V_mk ul216_1 ge216_1)
                      clear hva_ hvn_ hvc_ ge216_1 ul216_1
                      clear hcc216 hce216
                      have HR216_0 := Aside0.mk hi216_0
                      have HC216_0 := Aside0.mk hl216_0
                      clear hi216_0 hl216_0
                      have HR216_1 := Aside0.mk hi216_1
                      have HC216_1 := Aside0.mk hl216_1
                      clear hi216_1 hl216_1
                      replace p216 := eq_true p216
                      replace q216 := eq_true q216
                      have p217 : 0 ≤ (x9_2 : Int) := of_decide_eq_true (by first | (with_reducible assumption) | assumption)
                      have q217 : x9_2 < (t211.length : Int) := of_decide_eq_true (by first | (with_reducible assumption) | assumption)
                      obtain ⟨ad217, A217_0, c217_0, A217_1, c217_1, e217, hx217_0, hx217_1, hx217_2, hx217_3, hx217_4, hx217_5, hl217_0, hi217_0, hl217_1, hi217_1⟩ := at_T52 (Kd.N_reads' HO_6.out).2.2 x9_2 p217 q217
                      cases e217
                      obtain ⟨ce217, hce217, hMe217, hcc217⟩ := Kd.N_get HO_6.out z52 x9_2 p217 (by first | exact q217 | exact of_decide_eq_true (by first | (with_reducible assumption) | assumption) | (have e_ := (Kd.N_reads' HO_6.out).1; omega))
                      obtain ⟨ua217_0, uc217_0, ua217_1, uc217_1, rfl, ul217_0, ge217_0, ul217_1, ge217_1⟩ := k52_openF hMe217
                      have hv217_0 := hcc217 0 _ rfl
                      rw [Nat.add_zero] at hv217_0
                      replace hv217_0 := Option.some.inj (hv217_0.symm.trans hx217_0)
                      injection hv217_0 with hva_ hvn_ hvc_
                      rw [hva_] at ge217_0
                      rw [hvc_] at ul217_0
                      have HL217_0 := Aside0.mk (show Kd.V Kd.string 9 _ w.heap.size _ _ ((rd_T52 t211 x9_2).f0) from Kd.V_mk ul217_0 ge217_0)
                      clear hva_ hvn_ hvc_ ge217_0 ul217_0
                      have hv217_1 := hcc217 1 _ rfl
                      rw [add_field _ _ 1 (by omega)] at hv217_1
                      replace hv217_1 := Option.some.inj (hv217_1.symm.trans hx217_1)
                      injection hv217_1 with hva_ hvn_ hvc_
                      rw [hva_] at ge217_1
                      rw [hvc_] at ul217_1
                      have HL217_1 := Aside0.mk (show Kd.V (Kd.int .i64) 40 _ w.heap.size _ _ ((rd_T52 t211 x9_2).f1) from Kd.V_mk ul217_1 ge217_1)
                      clear hva_ hvn_ hvc_ ge217_1 ul217_1
                      clear hcc217 hce217
                      have HR217_0 := Aside0.mk hi217_0
                      have HC217_0 := Aside0.mk hl217_0
                      clear hi217_0 hl217_0
                      have HR217_1 := Aside0.mk hi217_1
                      have HC217_1 := Aside0.mk hl217_1
                      clear hi217_1 hl217_1
                      replace p217 := eq_true p217
                      replace q217 := eq_true q217
                      refine start_ (n := 10) (S := fun w' => w'.cell? (ad216.add ((x9_2).toNat * 6)) = some (.slice A216_0 ((rd_T52 t208 x9_2).f0).length c216_0) ∧ w'.cell? ⟨(ad216.add ((x9_2).toNat * 6)).block, (ad216.add ((x9_2).toNat * 6)).off + 1, none⟩ = some (.slice A216_1 ((rd_T52 t208 x9_2).f1).length c216_1) ∧ w'.cell? ⟨(ad216.add ((x9_2).toNat * 6)).block, (ad216.add ((x9_2).toNat * 6)).off + 2, none⟩ = some (.int .i64 ((rd_T52 t208 x9_2).f2)) ∧ w'.cell? ⟨(ad216.add ((x9_2).toNat * 6)).block, (ad216.add ((x9_2).toNat * 6)).off + 3, none⟩ = some (.int .i64 ((rd_T52 t208 x9_2).f3)) ∧ w'.cell? ⟨(ad216.add ((x9_2).toNat * 6)).block, (ad216.add ((x9_2).toNat * 6)).off + 4, none⟩ = some (.int .i64 ((rd_T52 t208 x9_2).f4.f0)) ∧ w'.cell? ⟨(ad216.add ((x9_2).toNat * 6)).block, (ad216.add ((x9_2).toNat * 6)).off + 5, none⟩ = some (.int .i64 ((rd_T52 t208 x9_2).f4.f1)) ∧ w'.cell? (ad217.add ((x9_2).toNat * 6)) = some (.slice A217_0 ((rd_T52 t211 x9_2).f0).length c217_0) ∧ w'.cell? ⟨(ad217.add ((x9_2).toNat * 6)).block, (ad217.add ((x9_2).toNat * 6)).off + 1, none⟩ = some (.slice A217_1 ((rd_T52 t211 x9_2).f1).length c217_1) ∧ w'.cell? ⟨(ad217.add ((x9_2).toNat * 6)).block, (ad217.add ((x9_2).toNat * 6)).off + 2, none⟩ = some (.int .i64 ((rd_T52 t211 x9_2).f2)) ∧ w'.cell? ⟨(ad217.add ((x9_2).toNat * 6)).block, (ad217.add ((x9_2).toNat * 6)).off + 3, none⟩ = some (.int .i64 ((rd_T52 t211 x9_2).f3)) ∧ w'.cell? ⟨(ad217.add ((x9_2).toNat * 6)).block, (ad217.add ((x9_2).toNat * 6)).off + 4, none⟩ = some (.int .i64 ((rd_T52 t211 x9_2).f4.f0)) ∧ w'.cell? ⟨(ad217.add ((x9_2).toNat * 6)).block, (ad217.add ((x9_2).toNat * 6)).off + 5, none⟩ = some (.int .i64 ((rd_T52 t211 x9_2).f4.f1))) (ds := []) #[false, false, false, false, false, false, false, false, false, false] (by kernel_rfl) rfl rfl ⟨hx216_0, hx216_1, hx216_2, hx216_3, hx216_4, hx216_5, hx217_0, hx217_1, hx217_2, hx217_3, hx217_4, hx217_5⟩ (fun hHeld => ?_); refine with_tabW marquetrylaw16_SchemaLeaves.tab11 marquetrylaw16_SchemaLeaves.bits11 (fun HT_ HW_ => ?_)
                      generalize wr.drew = w24 at HO_5 HO_6 BK206 HB HL216_0 HL216_1 HL217_0 HL217_1 HR216_0 HR216_1 HR217_0 HR217_1 hx216_0 hx216_1 hx216_2 hx216_3 hx216_4 hx216_5 hx217_0 hx217_1 hx217_2 hx217_3 hx217_4 hx217_5 hHeld ⊢
                      refine pure_ (i := 0) (N := some 38) (v := ?_) (a' := ?_) #[true, false, false, false, false, false, false, false, false, false] rfl rfl (any_of HT_.out (by kernel_rfl)) (fun _ _ _ h => h) (Or.inl ⟨by rfl, ?_⟩) ?_ ?_
                      rotate_left
                      · intro w'
                        go_simp
                        with_reducible rfl
                      rotate_left
                      · simp only [Act.put, List.setIfInBounds_toArray, List.set_cons_zero, List.set_cons_succ, i64_w, i32_w]
                        rfl
                      refine pure_ (i := 1) (N := some 39) (v := ?_) (a' := ?_) #[true, true, false, false, false, false, false, false, false, false] rfl rfl (any_of HT_.out (by kernel_rfl)) (fun _ _ _ h => h) (Or.inl ⟨by rfl, ?_⟩) ?_ ?_
                      rotate_left
                      · intro w'
                        go_simp
                        with_reducible rfl
                      rotate_left
                      · simp only [Act.put, List.setIfInBounds_toArray, List.set_cons_zero, List.set_cons_succ, i64_w, i32_w]
                        rfl
                      refine pure_ (i := 2) (N := some 40) (v := ?_) (a' := ?_) #[true, true, true, false, false, false, false, false, false, false] rfl rfl (any_of HT_.out (by kernel_rfl)) (fun _ _ _ h => h) (Or.inl ⟨by rfl, ?_⟩) ?_ ?_
                      rotate_left
                      · intro w'
                        go_simp
                        with_reducible rfl
                      rotate_left
                      · simp only [Act.put, List.setIfInBounds_toArray, List.set_cons_zero, List.set_cons_succ, i64_w, i32_w]
                        rfl
                      refine pure_ (i := 4) (N := some 42) (v := ?_) (a' := ?_) #[true, true, true, false, true, false, false, false, false, false] rfl rfl (any_of HT_.out (by kernel_rfl)) (fun _ _ _ h => h) (Or.inl ⟨by rfl, ?_⟩) ?_ ?_
                      rotate_left
                      · intro w'
                        go_simp
                        with_reducible rfl
                      rotate_left
                      · simp only [Act.put, List.setIfInBounds_toArray, List.set_cons_zero, List.set_cons_succ, i64_w, i32_w]
                        rfl
                      refine pure_ (i := 5) (N := some 43) (v := ?_) (a' := ?_) #[true, true, true, false, true, true, false, false, false, false] rfl rfl (any_of HT_.out (by kernel_rfl)) (fun _ _ _ h => h) (Or.inl ⟨by rfl, ?_⟩) ?_ ?_
                      rotate_left
                      · intro w'
                        go_simp
                        with_reducible rfl
                      rotate_left
                      · simp only [Act.put, List.setIfInBounds_toArray, List.set_cons_zero, List.set_cons_succ, i64_w, i32_w]
                        rfl
                      refine pure_ (i := 6) (N := some 44) (v := ?_) (a' := ?_) #[true, true, true, false, true, true, true, false, false, false] rfl rfl (any_of HT_.out (by kernel_rfl)) (fun _ _ _ h => h) (Or.inl ⟨by rfl, ?_⟩) ?_ ?_
                      rotate_left
                      · intro w'
                        go_simp
                        with_reducible rfl
                      rotate_left
                      · simp only [Act.put, List.setIfInBounds_toArray, List.set_cons_zero, List.set_cons_succ, i64_w, i32_w]
                        rfl
                      refine take_ (i := 3) (N := some 41) (v := ?_) (a' := ?_) #[true, true, true, true, true, true, true, false, false, false] rfl rfl (take_ofW HT_.out HW_.out (by kernel_rfl)) (fun _ _ _ h => h) (Or.inl ⟨by rfl, ?_⟩) hHeld ?_ ?_
                      rotate_left
                      · rintro w' ⟨s0, s1, s2, s3, s4, s5, s6, s7, s8, s9, s10, s11⟩
                        go_simp
                        with_reducible rfl
                      rotate_left
                      · simp only [Act.put, List.setIfInBounds_toArray, List.set_cons_zero, List.set_cons_succ, i64_w, i32_w]
                        rfl
                      refine take_ (i := 7) (N := some 45) (v := ?_) (a' := ?_) #[true, true, true, true, true, true, true, true, false, false] rfl rfl (take_ofW HT_.out HW_.out (by kernel_rfl)) (fun _ _ _ h => h) (Or.inl ⟨by rfl, ?_⟩) hHeld ?_ ?_
                      rotate_left
                      · rintro w' ⟨s0, s1, s2, s3, s4, s5, s6, s7, s8, s9, s10, s11⟩
                        go_simp
                        with_reducible rfl
                      rotate_left
                      · simp only [Act.put, List.setIfInBounds_toArray, List.set_cons_zero, List.set_cons_succ, i64_w, i32_w]
                        rfl
                      refine one_ (i := 8) (N := some 46) #[true, true, true, true, true, true, true, true, true, false] rfl rfl (one_of HT_.out (by kernel_rfl)) (by decide) (fun K hK => ?_)
                      refine goes_ Tryd.func20 (by kernel_rfl) rfl #[.agg #[.slice A216_0 ((rd_T52 t208 x9_2).f0).length c216_0, .slice A216_1 ((rd_T52 t208 x9_2).f1).length c216_1, .int .i64 ((rd_T52 t208 x9_2).f2), .int .i64 ((rd_T52 t208 x9_2).f3), .int .i64 ((rd_T52 t208 x9_2).f4.f0), .int .i64 ((rd_T52 t208 x9_2).f4.f1)], .agg #[.slice A217_0 ((rd_T52 t211 x9_2).f0).length c217_0, .slice A217_1 ((rd_T52 t211 x9_2).f1).length c217_1, .int .i64 ((rd_T52 t211 x9_2).f2), .int .i64 ((rd_T52 t211 x9_2).f3), .int .i64 ((rd_T52 t211 x9_2).f4.f0), .int .i64 ((rd_T52 t211 x9_2).f4.f1)]] (by rfl) rfl rfl (by (try simp only [List.map_toArray, List.map_cons, List.map_nil]); first | done | rfl | (simp only [List.length_drop, List.length_take]; rfl)) ?_
                      with_reducible refine (marquetryref16_SameLeaf.calls k2 _ _ ((rd_T52 t208 x9_2).f0) _ _ ((rd_T52 t208 x9_2).f1) ((rd_T52 t208 x9_2).f2) ((rd_T52 t208 x9_2).f3) ((rd_T52 t208 x9_2).f4.f0) ((rd_T52 t208 x9_2).f4.f1) _ _ ((rd_T52 t211 x9_2).f0) _ _ ((rd_T52 t211 x9_2).f1) ((rd_T52 t211 x9_2).f2) ((rd_T52 t211 x9_2).f3) ((rd_T52 t211 x9_2).f4.f0) ((rd_T52 t211 x9_2).f4.f1) true _ ?side1 ?side2 ?side3 ?side4 ?side5 ?side6 ?side7 ?side8 A22.out).mono ?_
                      (case side1 => repeat (first | exact (by repeat (first | (with_reducible exact HR216_0.out) | (with_reducible refine Kd.C_alloc ?_ _) | (with_reducible refine Kd.C_drewN ?_ _) | (with_reducible refine Kd.C_drew ?_) | exact HR216_0.out)) | (with_reducible refine Kd.C_alloc ?_ _) | (with_reducible refine Kd.C_drewN ?_ _) | (with_reducible refine Kd.C_drew ?_)))
                      (case side2 => exact HC216_0.out)
                      (case side3 => repeat (first | exact (by repeat (first | (with_reducible exact HR216_1.out) | (with_reducible refine Kd.C_alloc ?_ _) | (with_reducible refine Kd.C_drewN ?_ _) | (with_reducible refine Kd.C_drew ?_) | exact HR216_1.out)) | (with_reducible refine Kd.C_alloc ?_ _) | (with_reducible refine Kd.C_drewN ?_ _) | (with_reducible refine Kd.C_drew ?_)))
                      (case side4 => exact HC216_1.out)
                      (case side5 => repeat (first | exact (by repeat (first | (with_reducible exact HR217_0.out) | (with_reducible refine Kd.C_alloc ?_ _) | (with_reducible refine Kd.C_drewN ?_ _) | (with_reducible refine Kd.C_drew ?_) | exact HR217_0.out)) | (with_reducible refine Kd.C_alloc ?_ _) | (with_reducible refine Kd.C_drewN ?_ _) | (with_reducible refine Kd.C_drew ?_)))
                      (case side6 => exact HC217_0.out)
                      (case side7 => repeat (first | exact (by repeat (first | (with_reducible exact HR217_1.out) | (with_reducible refine Kd.C_alloc ?_ _) | (with_reducible refine Kd.C_drewN ?_ _) | (with_reducible refine Kd.C_drew ?_) | exact HR217_1.out)) | (with_reducible refine Kd.C_alloc ?_ _) | (with_reducible refine Kd.C_drewN ?_ _) | (with_reducible refine Kd.C_drew ?_)))
                      (case side8 => exact HC217_1.out)
                      rintro e w25 ⟨rfl, hb⟩
                      have HS0_ := (hb.cell (World.block_lt_of_cell? _ _ (hHeld.1))).trans (hHeld.1)
                      have HS1_ := (hb.cell (World.block_lt_of_cell? _ _ (hHeld.2.1))).trans (hHeld.2.1)
                      have HS2_ := (hb.cell (World.block_lt_of_cell? _ _ (hHeld.2.2.1))).trans (hHeld.2.2.1)
                      have HS3_ := (hb.cell (World.block_lt_of_cell? _ _ (hHeld.2.2.2.1))).trans (hHeld.2.2.2.1)
                      have HS4_ := (hb.cell (World.block_lt_of_cell? _ _ (hHeld.2.2.2.2.1))).trans (hHeld.2.2.2.2.1)
                      have HS5_ := (hb.cell (World.block_lt_of_cell? _ _ (hHeld.2.2.2.2.2.1))).trans (hHeld.2.2.2.2.2.1)
                      have HS6_ := (hb.cell (World.block_lt_of_cell? _ _ (hHeld.2.2.2.2.2.2.1))).trans (hHeld.2.2.2.2.2.2.1)
                      have HS7_ := (hb.cell (World.block_lt_of_cell? _ _ (hHeld.2.2.2.2.2.2.2.1))).trans (hHeld.2.2.2.2.2.2.2.1)
                      have HS8_ := (hb.cell (World.block_lt_of_cell? _ _ (hHeld.2.2.2.2.2.2.2.2.1))).trans (hHeld.2.2.2.2.2.2.2.2.1)
                      have HS9_ := (hb.cell (World.block_lt_of_cell? _ _ (hHeld.2.2.2.2.2.2.2.2.2.1))).trans (hHeld.2.2.2.2.2.2.2.2.2.1)
                      have HS10_ := (hb.cell (World.block_lt_of_cell? _ _ (hHeld.2.2.2.2.2.2.2.2.2.2.1))).trans (hHeld.2.2.2.2.2.2.2.2.2.2.1)
                      have HS11_ := (hb.cell (World.block_lt_of_cell? _ _ (hHeld.2.2.2.2.2.2.2.2.2.2.2))).trans (hHeld.2.2.2.2.2.2.2.2.2.2.2)
                      refine ⟨_, rfl, ?_⟩
                      have n0_ := Aside0.mk (Kd.N_below (by (with_reducible repeat (first | apply Kd.N_alloc | apply Kd.N_drewN | apply Kd.N_drew)); exact HO_5.out) hb)
                      have n1_ := Aside0.mk (Kd.N_below (by (with_reducible repeat (first | apply Kd.N_alloc | apply Kd.N_drewN | apply Kd.N_drew)); exact HO_6.out) hb)
                      have n2_ := Aside0.mk (Kd.V_below (by (with_reducible repeat (first | apply Kd.V_alloc | apply Kd.V_drewN | apply Kd.V_drew)); exact HL216_0.out) hb)
                      have n3_ := Aside0.mk (Kd.V_below (by (with_reducible repeat (first | apply Kd.V_alloc | apply Kd.V_drewN | apply Kd.V_drew)); exact HL216_1.out) hb)
                      have n4_ := Aside0.mk (Kd.V_below (by (with_reducible repeat (first | apply Kd.V_alloc | apply Kd.V_drewN | apply Kd.V_drew)); exact HL217_0.out) hb)
                      have n5_ := Aside0.mk (Kd.V_below (by (with_reducible repeat (first | apply Kd.V_alloc | apply Kd.V_drewN | apply Kd.V_drew)); exact HL217_1.out) hb)
                      have n6_ := Aside0.mk (blk_below (g := gb206) (o := .cells #[.string a0_0, .slice A0_1 l0_1.length c0_1] 24 (0, 0)) (by (with_reducible repeat (first | refine blk_drewN ?_ _ | refine blk_drew ?_ | refine blk_alloc ?_ _)); exact BK206.out) hb)
                      have n7_ := Aside0.mk (Kd.C_below (by repeat (first | (with_reducible exact HR216_0.out) | (with_reducible refine Kd.C_alloc ?_ _) | (with_reducible refine Kd.C_drewN ?_ _) | (with_reducible refine Kd.C_drew ?_) | exact HR216_0.out)) hb)
                      have n8_ := Aside0.mk (Kd.C_below (by repeat (first | (with_reducible exact HR216_1.out) | (with_reducible refine Kd.C_alloc ?_ _) | (with_reducible refine Kd.C_drewN ?_ _) | (with_reducible refine Kd.C_drew ?_) | exact HR216_1.out)) hb)
                      have n9_ := Aside0.mk (Kd.C_below (by repeat (first | (with_reducible exact HR217_0.out) | (with_reducible refine Kd.C_alloc ?_ _) | (with_reducible refine Kd.C_drewN ?_ _) | (with_reducible refine Kd.C_drew ?_) | exact HR217_0.out)) hb)
                      have n10_ := Aside0.mk (Kd.C_below (by repeat (first | (with_reducible exact HR217_1.out) | (with_reducible refine Kd.C_alloc ?_ _) | (with_reducible refine Kd.C_drewN ?_ _) | (with_reducible refine Kd.C_drew ?_) | exact HR217_1.out)) hb)
                      have n11_ := Aside0.mk (below_step (by repeat (first | (with_reducible first | exact HB.out | apply below_alloc | apply pw_below_drewN | apply below_drew1 | refine below_set ?_ GE206.out) | exact HB.out)) hb)
                      clear HO_5
                      clear HO_6
                      clear HL216_0
                      clear HL216_1
                      clear HL217_0
                      clear HL217_1
                      clear BK206
                      clear HR216_0
                      clear HR216_1
                      clear HR217_0
                      clear HR217_1
                      clear HB
                      have HO_5 := n0_
                      have HO_6 := n1_
                      have HL216_0 := n2_
                      have HL216_1 := n3_
                      have HL217_0 := n4_
                      have HL217_1 := n5_
                      have BK206 := n6_
                      have HR216_0 := n7_
                      have HR216_1 := n8_
                      have HR217_0 := n9_
                      have HR217_1 := n10_
                      have HB := n11_
                      clear n0_ n1_ n2_ n3_ n4_ n5_ n6_ n7_ n8_ n9_ n10_ n11_
                      (try clear hb)
                      (try clear hb2)
                      (try clear hk)
                      (try clear hi)
                      refine hK.out _ _ ⟨HS0_, HS1_, HS2_, HS3_, HS4_, HS5_, HS6_, HS7_, HS8_, HS9_, HS10_, HS11_⟩ (fun hHeld => ?_)
                      clear hK K
                      refine norm_ (a' := ?_) ?_ ?_
                      rotate_left
                      · show Act.put _ (some 46) _ = _
                        simp only [Act.put, List.setIfInBounds_toArray, List.set_cons_zero, List.set_cons_succ, i64_w, i32_w]
                        rfl
                      refine pure_ (i := 9) (N := some 47) (v := ?_) (a' := ?_) #[true, true, true, true, true, true, true, true, true, true] rfl rfl (any_of HT_.out (by kernel_rfl)) (fun _ _ _ h => h) (Or.inl ⟨by rfl, ?_⟩) ?_ ?_
                      rotate_left
                      · intro w'
                        go_simp
                        with_reducible rfl
                      rotate_left
                      · simp only [Act.put, List.setIfInBounds_toArray, List.set_cons_zero, List.set_cons_succ, i64_w, i32_w]
                        rfl
                      refine done_ (done_of HT_.out (by kernel_rfl)) ?_
                      have p219 : 0 ≤ (x9_2 : Int) := of_decide_eq_true (by first | (with_reducible assumption) | assumption)
                      have q219 : x9_2 < (t211.length : Int) := of_decide_eq_true (by first | (with_reducible assumption) | assumption)
                      obtain ⟨ad219, A219_0, c219_0, A219_1, c219_1, e219, hx219_0, hx219_1, hx219_2, hx219_3, hx219_4, hx219_5, hl219_0, hi219_0, hl219_1, hi219_1⟩ := at_T52 (Kd.N_reads' HO_6.out).2.2 x9_2 p219 q219
                      obtain rfl : ad217 = ad219 := (by injection e219)
                      obtain ⟨ce219, hce219, hMe219, hcc219⟩ := Kd.N_get HO_6.out z52 x9_2 p219 (by first | exact q219 | exact of_decide_eq_true (by first | (with_reducible assumption) | assumption) | (have e_ := (Kd.N_reads' HO_6.out).1; omega))
                      obtain ⟨ua219_0, uc219_0, ua219_1, uc219_1, rfl, ul219_0, ge219_0, ul219_1, ge219_1⟩ := k52_openF hMe219
                      have hv219_0 := hcc219 0 _ rfl
                      rw [Nat.add_zero] at hv219_0
                      replace hv219_0 := Option.some.inj (hv219_0.symm.trans hx219_0)
                      injection hv219_0 with hva_ hvn_ hvc_
                      rw [hva_] at ge219_0
                      rw [hvc_] at ul219_0
                      have HL219_0 := Aside0.mk (show Kd.V Kd.string 9 _ w.heap.size _ _ ((rd_T52 t211 x9_2).f0) from Kd.V_mk ul219_0 ge219_0)
                      clear hva_ hvn_ hvc_ ge219_0 ul219_0
                      have hv219_1 := hcc219 1 _ rfl
                      rw [add_field _ _ 1 (by omega)] at hv219_1
                      replace hv219_1 := Option.some.inj (hv219_1.symm.trans hx219_1)
                      injection hv219_1 with hva_ hvn_ hvc_
                      rw [hva_] at ge219_1
                      rw [hvc_] at ul219_1
                      have HL219_1 := Aside0.mk (show Kd.V (Kd.int .i64) 40 _ w.heap.size _ _ ((rd_T52 t211 x9_2).f1) from Kd.V_mk ul219_1 ge219_1)
                      clear hva_ hvn_ hvc_ ge219_1 ul219_1
                      clear hcc219 hce219
                      have HR219_0 := Aside0.mk hi219_0
                      have HC219_0 := Aside0.mk hl219_0
                      clear hi219_0 hl219_0
                      have HR219_1 := Aside0.mk hi219_1
                      have HC219_1 := Aside0.mk hl219_1
                      clear hi219_1 hl219_1
                      replace p219 := eq_true p219
                      replace q219 := eq_true q219
                      try go_wp2
                      go_loopg [10, 11] k2 (fun kq v10 v11 w' => ∃ (x10_3 : Bool) (x11_3 : Int), v10 = .bool x10_3 ∧ v11 = .int .i64 x11_3 ∧ Aside0 (marquetrylaw16_SchemaLeaves.l1 kq l1 t208 t211 x7_2 x8_2 x9_2 x10_3 x11_3 a0_0 l0_1 = some r) ∧ Aside0 (kq ≤ k2) ∧ Aside0 (Kd.N k52 52 w' w.heap.size (fun k_ => some k_ ≠ ((.slice (some ad217) t211.length co18) : Value).ownBlock ∧ k_ ≠ gb206) (.slice (some ad216) t208.length co17) t208) ∧ Aside0 (Kd.N k52 52 w' w.heap.size (fun k_ => some k_ ≠ ((.slice (some ad216) t208.length co17) : Value).ownBlock ∧ k_ ≠ gb206) (.slice (some ad217) t211.length co18) t211) ∧ Aside0 (w'.heap[gb206]? = some (.cells #[.string a0_0, (.slice A0_1 l0_1.length c0_1)] 24 (0, 0))) ∧ Aside0 (Kd.C Kd.string w' A216_0 ((rd_T52 t208 x9_2).f0).length ((rd_T52 t208 x9_2).f0)) ∧ Aside0 (Kd.C (Kd.int .i64) w' A216_1 ((rd_T52 t208 x9_2).f1).length ((rd_T52 t208 x9_2).f1)) ∧ Aside0 (Kd.C Kd.string w' A217_0 ((rd_T52 t211 x9_2).f0).length ((rd_T52 t211 x9_2).f0)) ∧ Aside0 (Kd.C (Kd.int .i64) w' A217_1 ((rd_T52 t211 x9_2).f1).length ((rd_T52 t211 x9_2).f1)) ∧ Aside0 (Kd.C Kd.string w' A219_0 ((rd_T52 t211 x9_2).f0).length ((rd_T52 t211 x9_2).f0)) ∧ Aside0 (Kd.C (Kd.int .i64) w' A219_1 ((rd_T52 t211 x9_2).f1).length ((rd_T52 t211 x9_2).f1)) ∧ Aside0 (Below w.heap.size w w'))
                      case atStart => exact ⟨(((l1.length : Int) == (((rd_T52 t211 x9_2).f0).length : Int))), (0), (by first | rfl | (simp; done) | (simp [*]; done)), (by first | rfl | (simp; done) | (simp [*]; done)), H', ⟨Nat.le_refl _⟩, ⟨by (with_reducible repeat (first | apply Kd.N_alloc | apply Kd.N_drewN | apply Kd.N_drew)); exact HO_5.out⟩, ⟨by (with_reducible repeat (first | apply Kd.N_alloc | apply Kd.N_drewN | apply Kd.N_drew)); exact HO_6.out⟩, ⟨by (with_reducible repeat (first | refine blk_drewN ?_ _ | refine blk_drew ?_ | refine blk_alloc ?_ _)); exact BK206.out⟩, ⟨by repeat (first | (with_reducible exact HR216_0.out) | (with_reducible refine Kd.C_alloc ?_ _) | (with_reducible refine Kd.C_drewN ?_ _) | (with_reducible refine Kd.C_drew ?_) | exact HR216_0.out)⟩, ⟨by repeat (first | (with_reducible exact HR216_1.out) | (with_reducible refine Kd.C_alloc ?_ _) | (with_reducible refine Kd.C_drewN ?_ _) | (with_reducible refine Kd.C_drew ?_) | exact HR216_1.out)⟩, ⟨by repeat (first | (with_reducible exact HR217_0.out) | (with_reducible refine Kd.C_alloc ?_ _) | (with_reducible refine Kd.C_drewN ?_ _) | (with_reducible refine Kd.C_drew ?_) | exact HR217_0.out)⟩, ⟨by repeat (first | (with_reducible exact HR217_1.out) | (with_reducible refine Kd.C_alloc ?_ _) | (with_reducible refine Kd.C_drewN ?_ _) | (with_reducible refine Kd.C_drew ?_) | exact HR217_1.out)⟩, ⟨by repeat (first | (with_reducible exact HR219_0.out) | (with_reducible refine Kd.C_alloc ?_ _) | (with_reducible refine Kd.C_drewN ?_ _) | (with_reducible refine Kd.C_drew ?_) | exact HR219_0.out)⟩, ⟨by repeat (first | (with_reducible exact HR219_1.out) | (with_reducible refine Kd.C_alloc ?_ _) | (with_reducible refine Kd.C_drewN ?_ _) | (with_reducible refine Kd.C_drew ?_) | exact HR219_1.out)⟩, ⟨by repeat (first | (with_reducible first | exact HB.out | apply below_alloc | apply pw_below_drewN | apply below_drew1 | refine below_set ?_ GE206.out) | exact HB.out)⟩⟩
                      case round =>
                        clear H'
                        try clear c1
                        try clear c2
                        try clear p2
                        try clear q2
                        try clear hx2
                        try clear c6
                        try clear c6b0
                        try clear c8
                        try clear c9
                        try clear c12
                        try clear c12b0
                        try clear c12b1
                        try clear c12b2
                        try clear c18
                        try clear c19
                        try clear c19b0
                        try clear c20
                        try clear c20b0
                        try clear c21
                        try clear c21b0
                        try clear p21
                        try clear q21
                        try clear hx21
                        try clear c23
                        try clear hcz13_0
                        try clear hcz13_1
                        try clear hcz15_0
                        try clear hcz15_1
                        try clear hcz7_0
                        try clear hcz7_1
                        try clear hcz8_0
                        try clear hcz8_1
                        try clear hfz13_0
                        try clear hfz13_1
                        try clear hfz15_0
                        try clear hfz15_1
                        try clear hfz7_0
                        try clear hfz7_1
                        try clear hfz8_0
                        try clear hfz8_1
                        try clear hx216_0
                        try clear hx216_1
                        try clear hx216_2
                        try clear hx216_3
                        try clear hx216_4
                        try clear hx216_5
                        try clear hx217_0
                        try clear hx217_1
                        try clear hx217_2
                        try clear hx217_3
                        try clear hx217_4
                        try clear hx217_5
                        try clear hx219_0
                        try clear hx219_1
                        try clear hx219_2
                        try clear hx219_3
                        try clear hx219_4
                        try clear hx219_5
                        try clear p2
                        try clear p216
                        try clear p217
                        try clear p219
                        try clear q216
                        try clear q217
                        try clear q219
                        obtain ⟨x10_3, x11_3, rfl, rfl, HA, HK3, HO_5, HO_6, BK206, HR216_0, HR216_1, HR217_0, HR217_1, HR219_0, HR219_1, HB⟩ := hrel
                        cases gk with
                        | zero => exact absurd HA.out (by simp [marquetrylaw16_SchemaLeaves.l1])
                        | succ k3 =>
                          have H := HA.out
                          clear HA
                          simp only [marquetrylaw16_SchemaLeaves.l1] at H
                          by_cases c26 : x10_3 = true
                          · subst c26
                            have H1 : (if x11_3 < (l1.length : Int) then (if 0 ≤ x11_3 then (if 0 ≤ x9_2 then (if x9_2 < (t211.length : Int) then (if x11_3 < (((rd_T52 t211 x9_2).f0).length : Int) then (marquetrylaw16_SchemaLeaves.l1 k3 l1 t208 t211 x7_2 x8_2 x9_2 ((rdOf ByteArray.empty l1 x11_3).toList == (rdOf ByteArray.empty ((rd_T52 t211 x9_2).f0) x11_3).toList) (wrap64 (x11_3 + 1)) a0_0 l0_1) else (none)) else (none)) else (none)) else (none)) else (marquetrylaw16_SchemaLeaves.l0 k3 l1 t208 t211 x9_2 true (wrap64 (x9_2 + 1)) a0_0 l0_1)) = some r := by rw [if_pos rfl] at H; exact H
                            clear H
                            have H := H1
                            clear H1
                            by_cases c27 : x11_3 < (l1.length : Int)
                            · rw [if_pos c27] at H
                              have c27b0 : decide (x11_3 < (l1.length : Int)) = true := decide_eq_true c27
                              clear c27
                              by_cases c28 : 0 ≤ x11_3
                              · rw [if_pos c28] at H
                                have c28b0 : decide (0 ≤ x11_3) = true := decide_eq_true c28
                                clear c28
                                by_cases c29 : 0 ≤ x9_2
                                · rw [if_pos c29] at H
                                  have c29b0 : decide (0 ≤ x9_2) = true := decide_eq_true c29
                                  clear c29
                                  by_cases c30 : x9_2 < (t211.length : Int)
                                  · rw [if_pos c30] at H
                                    have c30b0 : decide (x9_2 < (t211.length : Int)) = true := decide_eq_true c30
                                    clear c30
                                    by_cases c31 : x11_3 < (((rd_T52 t211 x9_2).f0).length : Int)
                                    · rw [if_pos c31] at H
                                      have c31b0 : decide (x11_3 < (((rd_T52 t211 x9_2).f0).length : Int)) = true := decide_eq_true c31
                                      clear c31
                                      have H' := Aside0.mk H
                                      clear H
                                      try go_wp2
                                      have n0_ := Aside0.mk (Kd.N_drew HO_5.out)
                                      have n1_ := Aside0.mk (Kd.N_drew HO_6.out)
                                      have n2_ := Aside0.mk (blk_drew BK206.out)
                                      have n3_ := Aside0.mk (Kd.C_drew HR216_0.out)
                                      have n4_ := Aside0.mk (Kd.C_drew HR216_1.out)
                                      have n5_ := Aside0.mk (Kd.C_drew HR217_0.out)
                                      have n6_ := Aside0.mk (Kd.C_drew HR217_1.out)
                                      have n7_ := Aside0.mk (Kd.C_drew HR219_0.out)
                                      have n8_ := Aside0.mk (Kd.C_drew HR219_1.out)
                                      have n9_ := Aside0.mk (below_drew1 HB.out)
                                      clear HO_5
                                      clear HO_6
                                      clear BK206
                                      clear HR216_0
                                      clear HR216_1
                                      clear HR217_0
                                      clear HR217_1
                                      clear HR219_0
                                      clear HR219_1
                                      clear HB
                                      have HO_5 := n0_
                                      have HO_6 := n1_
                                      have BK206 := n2_
                                      have HR216_0 := n3_
                                      have HR216_1 := n4_
                                      have HR217_0 := n5_
                                      have HR217_1 := n6_
                                      have HR219_0 := n7_
                                      have HR219_1 := n8_
                                      have HB := n9_
                                      clear n0_ n1_ n2_ n3_ n4_ n5_ n6_ n7_ n8_ n9_
                                      have p220 : 0 ≤ (x11_3 : Int) := of_decide_eq_true (by first | (with_reducible assumption) | assumption)
                                      have q220 : x11_3 < (l1.length : Int) := of_decide_eq_true (by first | (with_reducible assumption) | assumption)
                                      obtain ⟨ad220, e220, hx220_0⟩ := Kd.at_string HR1.out x11_3 p220 q220
                                      have hw220_0 := hx220_0
                                      cases e220
                                      replace hx220_0 := (HB.out.cell (World.block_lt_of_cell? w _ hx220_0)).trans hx220_0
                                      replace p220 := eq_true p220
                                      replace q220 := eq_true q220
                                      have p221 : 0 ≤ (x9_2 : Int) := of_decide_eq_true (by first | (with_reducible assumption) | assumption)
                                      have q221 : x9_2 < (t211.length : Int) := of_decide_eq_true (by first | (with_reducible assumption) | assumption)
                                      obtain ⟨ad221, A221_0, c221_0, A221_1, c221_1, e221, hx221_0, hx221_1, hx221_2, hx221_3, hx221_4, hx221_5, hl221_0, hi221_0, hl221_1, hi221_1⟩ := at_T52 (Kd.N_reads' HO_6.out).2.2 x9_2 p221 q221
                                      obtain rfl : ad217 = ad221 := (by injection e221)
                                      obtain ⟨ce221, hce221, hMe221, hcc221⟩ := Kd.N_get HO_6.out z52 x9_2 p221 (by first | exact q221 | exact of_decide_eq_true (by first | (with_reducible assumption) | assumption) | (have e_ := (Kd.N_reads' HO_6.out).1; omega))
                                      obtain ⟨ua221_0, uc221_0, ua221_1, uc221_1, rfl, ul221_0, ge221_0, ul221_1, ge221_1⟩ := k52_openF hMe221
                                      have hv221_0 := hcc221 0 _ rfl
                                      rw [Nat.add_zero] at hv221_0
                                      replace hv221_0 := Option.some.inj (hv221_0.symm.trans hx221_0)
                                      injection hv221_0 with hva_ hvn_ hvc_
                                      rw [hva_] at ge221_0
                                      rw [hvc_] at ul221_0
                                      have HL221_0 := Aside0.mk (show Kd.V Kd.string 9 _ w.heap.size _ _ ((rd_T52 t211 x9_2).f0) from Kd.V_mk ul221_0 ge221_0)
                                      clear hva_ hvn_ hvc_ ge221_0 ul221_0
                                      have hv221_1 := hcc221 1 _ rfl
                                      rw [add_field _ _ 1 (by omega)] at hv221_1
                                      replace hv221_1 := Option.some.inj (hv221_1.symm.trans hx221_1)
                                      injection hv221_1 with hva_ hvn_ hvc_
                                      rw [hva_] at ge221_1
                                      rw [hvc_] at ul221_1
                                      have HL221_1 := Aside0.mk (show Kd.V (Kd.int .i64) 40 _ w.heap.size _ _ ((rd_T52 t211 x9_2).f1) from Kd.V_mk ul221_1 ge221_1)
                                      clear hva_ hvn_ hvc_ ge221_1 ul221_1
                                      clear hcc221 hce221
                                      have HR221_0 := Aside0.mk hi221_0
                                      have HC221_0 := Aside0.mk hl221_0
                                      clear hi221_0 hl221_0
                                      have HR221_1 := Aside0.mk hi221_1
                                      have HC221_1 := Aside0.mk hl221_1
                                      clear hi221_1 hl221_1
                                      replace p221 := eq_true p221
                                      replace q221 := eq_true q221
                                      have p222 : 0 ≤ (x11_3 : Int) := of_decide_eq_true (by first | (with_reducible assumption) | assumption)
                                      have q222 : x11_3 < (((rd_T52 t211 x9_2).f0).length : Int) := of_decide_eq_true (by first | (with_reducible assumption) | assumption)
                                      obtain ⟨ad222, e222, hx222_0⟩ := Kd.at_string (by repeat (first | (with_reducible exact HR221_0.out) | (with_reducible refine Kd.C_alloc ?_ _) | (with_reducible refine Kd.C_drewN ?_ _) | (with_reducible refine Kd.C_drew ?_) | exact HR221_0.out)) x11_3 p222 q222
                                      cases e222
                                      replace p222 := eq_true p222
                                      replace q222 := eq_true q222
                                      refine start_ (n := 14) (S := fun w' => w'.cell? (ad220.add (x11_3).toNat) = some (.string (rdOf ByteArray.empty l1 x11_3)) ∧ w'.cell? (ad217.add ((x9_2).toNat * 6)) = some (.slice (some ad222) ((rd_T52 t211 x9_2).f0).length c221_0) ∧ w'.cell? ⟨(ad217.add ((x9_2).toNat * 6)).block, (ad217.add ((x9_2).toNat * 6)).off + 1, none⟩ = some (.slice A221_1 ((rd_T52 t211 x9_2).f1).length c221_1) ∧ w'.cell? ⟨(ad217.add ((x9_2).toNat * 6)).block, (ad217.add ((x9_2).toNat * 6)).off + 2, none⟩ = some (.int .i64 ((rd_T52 t211 x9_2).f2)) ∧ w'.cell? ⟨(ad217.add ((x9_2).toNat * 6)).block, (ad217.add ((x9_2).toNat * 6)).off + 3, none⟩ = some (.int .i64 ((rd_T52 t211 x9_2).f3)) ∧ w'.cell? ⟨(ad217.add ((x9_2).toNat * 6)).block, (ad217.add ((x9_2).toNat * 6)).off + 4, none⟩ = some (.int .i64 ((rd_T52 t211 x9_2).f4.f0)) ∧ w'.cell? ⟨(ad217.add ((x9_2).toNat * 6)).block, (ad217.add ((x9_2).toNat * 6)).off + 5, none⟩ = some (.int .i64 ((rd_T52 t211 x9_2).f4.f1)) ∧ w'.cell? (ad222.add (x11_3).toNat) = some (.string (rdOf ByteArray.empty ((rd_T52 t211 x9_2).f0) x11_3))) (ds := []) #[false, false, false, false, false, false, false, false, false, false, false, false, false, false] (by kernel_rfl) rfl rfl ⟨((HB.out.cell (World.block_lt_of_cell? w _ hw220_0)).trans hw220_0), hx221_0, hx221_1, hx221_2, hx221_3, hx221_4, hx221_5, hx222_0⟩ (fun hHeld => ?_); refine with_tabW marquetrylaw16_SchemaLeaves.tab17 marquetrylaw16_SchemaLeaves.bits17 (fun HT_ HW_ => ?_)
                                      generalize wr.drew = w32 at HO_5 HO_6 BK206 HR216_0 HR216_1 HR217_0 HR217_1 HR219_0 HR219_1 HB HL221_0 HL221_1 HR221_0 HR221_1 hx220_0 hx221_0 hx221_1 hx221_2 hx221_3 hx221_4 hx221_5 hx222_0 hHeld ⊢
                                      refine pure_ (i := 0) (N := some 66) (v := ?_) (a' := ?_) #[true, false, false, false, false, false, false, false, false, false, false, false, false, false] rfl rfl (any_of HT_.out (by kernel_rfl)) (fun _ _ _ h => h) (Or.inl ⟨by rfl, ?_⟩) ?_ ?_
                                      rotate_left
                                      · intro w'
                                        go_simp
                                        with_reducible rfl
                                      rotate_left
                                      · simp only [Act.put, List.setIfInBounds_toArray, List.set_cons_zero, List.set_cons_succ, i64_w, i32_w]
                                        rfl
                                      refine pure_ (i := 1) (N := some 67) (v := ?_) (a' := ?_) #[true, true, false, false, false, false, false, false, false, false, false, false, false, false] rfl rfl (any_of HT_.out (by kernel_rfl)) (fun _ _ _ h => h) (Or.inl ⟨by rfl, ?_⟩) ?_ ?_
                                      rotate_left
                                      · intro w'
                                        go_simp
                                        with_reducible rfl
                                      rotate_left
                                      · simp only [Act.put, List.setIfInBounds_toArray, List.set_cons_zero, List.set_cons_succ, i64_w, i32_w]
                                        rfl
                                      refine pure_ (i := 2) (N := some 68) (v := ?_) (a' := ?_) #[true, true, true, false, false, false, false, false, false, false, false, false, false, false] rfl rfl (any_of HT_.out (by kernel_rfl)) (fun _ _ _ h => h) (Or.inl ⟨by rfl, ?_⟩) ?_ ?_
                                      rotate_left
                                      · intro w'
                                        go_simp
                                        with_reducible rfl
                                      rotate_left
                                      · simp only [Act.put, List.setIfInBounds_toArray, List.set_cons_zero, List.set_cons_succ, i64_w, i32_w]
                                        rfl
                                      refine pure_ (i := 4) (N := some 70) (v := ?_) (a' := ?_) #[true, true, true, false, true, false, false, false, false, false, false, false, false, false] rfl rfl (any_of HT_.out (by kernel_rfl)) (fun _ _ _ h => h) (Or.inl ⟨by rfl, ?_⟩) ?_ ?_
                                      rotate_left
                                      · intro w'
                                        go_simp
                                        with_reducible rfl
                                      rotate_left
                                      · simp only [Act.put, List.setIfInBounds_toArray, List.set_cons_zero, List.set_cons_succ, i64_w, i32_w]
                                        rfl
                                      refine pure_ (i := 5) (N := some 71) (v := ?_) (a' := ?_) #[true, true, true, false, true, true, false, false, false, false, false, false, false, false] rfl rfl (any_of HT_.out (by kernel_rfl)) (fun _ _ _ h => h) (Or.inl ⟨by rfl, ?_⟩) ?_ ?_
                                      rotate_left
                                      · intro w'
                                        go_simp
                                        with_reducible rfl
                                      rotate_left
                                      · simp only [Act.put, List.setIfInBounds_toArray, List.set_cons_zero, List.set_cons_succ, i64_w, i32_w]
                                        rfl
                                      refine pure_ (i := 6) (N := some 72) (v := ?_) (a' := ?_) #[true, true, true, false, true, true, true, false, false, false, false, false, false, false] rfl rfl (any_of HT_.out (by kernel_rfl)) (fun _ _ _ h => h) (Or.inl ⟨by rfl, ?_⟩) ?_ ?_
                                      rotate_left
                                      · intro w'
                                        go_simp
                                        with_reducible rfl
                                      rotate_left
                                      · simp only [Act.put, List.setIfInBounds_toArray, List.set_cons_zero, List.set_cons_succ, i64_w, i32_w]
                                        rfl
                                      refine pure_ (i := 7) (N := some 73) (v := ?_) (a' := ?_) #[true, true, true, false, true, true, true, true, false, false, false, false, false, false] rfl rfl (any_of HT_.out (by kernel_rfl)) (fun _ _ _ h => h) (Or.inl ⟨by rfl, ?_⟩) ?_ ?_
                                      rotate_left
                                      · intro w'
                                        go_simp
                                        with_reducible rfl
                                      rotate_left
                                      · simp only [Act.put, List.setIfInBounds_toArray, List.set_cons_zero, List.set_cons_succ, i64_w, i32_w]
                                        rfl
                                      refine pure_ (i := 9) (N := some 75) (v := ?_) (a' := ?_) #[true, true, true, false, true, true, true, true, false, true, false, false, false, false] rfl rfl (any_of HT_.out (by kernel_rfl)) (fun _ _ _ h => h) (Or.inl ⟨by rfl, ?_⟩) ?_ ?_
                                      rotate_left
                                      · intro w'
                                        go_simp
                                        with_reducible rfl
                                      rotate_left
                                      · simp only [Act.put, List.setIfInBounds_toArray, List.set_cons_zero, List.set_cons_succ, i64_w, i32_w]
                                        rfl
                                      refine take_ (i := 3) (N := some 69) (v := ?_) (a' := ?_) #[true, true, true, true, true, true, true, true, false, true, false, false, false, false] rfl rfl (take_ofW HT_.out HW_.out (by kernel_rfl)) (fun _ _ _ h => h) (Or.inl ⟨by rfl, ?_⟩) hHeld ?_ ?_
                                      rotate_left
                                      · rintro w' ⟨s0, s1, s2, s3, s4, s5, s6, s7⟩
                                        go_simp
                                        with_reducible rfl
                                      rotate_left
                                      · simp only [Act.put, List.setIfInBounds_toArray, List.set_cons_zero, List.set_cons_succ, i64_w, i32_w]
                                        rfl
                                      refine take_ (i := 8) (N := some 74) (v := ?_) (a' := ?_) #[true, true, true, true, true, true, true, true, true, true, false, false, false, false] rfl rfl (take_ofW HT_.out HW_.out (by kernel_rfl)) (fun _ _ _ h => h) (Or.inl ⟨by rfl, ?_⟩) hHeld ?_ ?_
                                      rotate_left
                                      · rintro w' ⟨s0, s1, s2, s3, s4, s5, s6, s7⟩
                                        go_simp
                                        with_reducible rfl
                                      rotate_left
                                      · simp only [Act.put, List.setIfInBounds_toArray, List.set_cons_zero, List.set_cons_succ, i64_w, i32_w]
                                        rfl
                                      refine pure_ (i := 10) (N := some 76) (v := ?_) (a' := ?_) #[true, true, true, true, true, true, true, true, true, true, true, false, false, false] rfl rfl (any_of HT_.out (by kernel_rfl)) (fun _ _ _ h => h) (Or.inl ⟨by rfl, ?_⟩) ?_ ?_
                                      rotate_left
                                      · intro w'
                                        go_simp
                                        with_reducible rfl
                                      rotate_left
                                      · simp only [Act.put, List.setIfInBounds_toArray, List.set_cons_zero, List.set_cons_succ, i64_w, i32_w]
                                        rfl
                                      refine take_ (i := 11) (N := some 77) (v := ?_) (a' := ?_) #[true, true, true, true, true, true, true, true, true, true, true, true, false, false] rfl rfl (take_ofW HT_.out HW_.out (by kernel_rfl)) (fun _ _ _ h => h) (Or.inl ⟨by rfl, ?_⟩) hHeld ?_ ?_
                                      rotate_left
                                      · rintro w' ⟨s0, s1, s2, s3, s4, s5, s6, s7⟩
                                        go_simp
                                        with_reducible rfl
                                      rotate_left
                                      · simp only [Act.put, List.setIfInBounds_toArray, List.set_cons_zero, List.set_cons_succ, i64_w, i32_w]
                                        rfl
                                      refine pure_ (i := 12) (N := some 78) (v := ?_) (a' := ?_) #[true, true, true, true, true, true, true, true, true, true, true, true, true, false] rfl rfl (any_of HT_.out (by kernel_rfl)) (fun _ _ _ h => h) (Or.inl ⟨by rfl, ?_⟩) ?_ ?_
                                      rotate_left
                                      · intro w'
                                        go_simp
                                        with_reducible rfl
                                      rotate_left
                                      · simp only [Act.put, List.setIfInBounds_toArray, List.set_cons_zero, List.set_cons_succ, i64_w, i32_w]
                                        rfl
                                      refine pure_ (i := 13) (N := some 10) (v := ?_) (a' := ?_) #[true, true, true, true, true, true, true, true, true, true, true, true, true, true] rfl rfl (any_of HT_.out (by kernel_rfl)) (fun _ _ _ h => h) (Or.inl ⟨by rfl, ?_⟩) ?_ ?_
                                      rotate_left
                                      · intro w'
                                        go_simp
                                        with_reducible rfl
                                      rotate_left
                                      · simp only [Act.put, List.setIfInBounds_toArray, List.set_cons_zero, List.set_cons_succ, i64_w, i32_w]
                                        rfl
                                      refine done_ (done_of HT_.out (by kernel_rfl)) ?_
                                      try go_wp2
                                      go_roundg k3
                                      case measure => have := HJ2.out; have := HK2.out; have := HK3.out; omega
                                      case rel => exact ⟨(((rdOf ByteArray.empty l1 x11_3).toList == (rdOf ByteArray.empty ((rd_T52 t211 x9_2).f0) x11_3).toList)), (wrap64 (x11_3 + 1)), (by first | rfl | (simp; done) | (simp [*]; done)), (by first | rfl | (simp; done) | (simp [*]; done)), H', ⟨by have := HJ2.out; have := HK2.out; have := HK3.out; omega⟩, ⟨by (with_reducible repeat (first | apply Kd.N_alloc | apply Kd.N_drewN | apply Kd.N_drew)); exact HO_5.out⟩, ⟨by (with_reducible repeat (first | apply Kd.N_alloc | apply Kd.N_drewN | apply Kd.N_drew)); exact HO_6.out⟩, ⟨by (with_reducible repeat (first | refine blk_drewN ?_ _ | refine blk_drew ?_ | refine blk_alloc ?_ _)); exact BK206.out⟩, ⟨by repeat (first | (with_reducible exact HR216_0.out) | (with_reducible refine Kd.C_alloc ?_ _) | (with_reducible refine Kd.C_drewN ?_ _) | (with_reducible refine Kd.C_drew ?_) | exact HR216_0.out)⟩, ⟨by repeat (first | (with_reducible exact HR216_1.out) | (with_reducible refine Kd.C_alloc ?_ _) | (with_reducible refine Kd.C_drewN ?_ _) | (with_reducible refine Kd.C_drew ?_) | exact HR216_1.out)⟩, ⟨by repeat (first | (with_reducible exact HR217_0.out) | (with_reducible refine Kd.C_alloc ?_ _) | (with_reducible refine Kd.C_drewN ?_ _) | (with_reducible refine Kd.C_drew ?_) | exact HR217_0.out)⟩, ⟨by repeat (first | (with_reducible exact HR217_1.out) | (with_reducible refine Kd.C_alloc ?_ _) | (with_reducible refine Kd.C_drewN ?_ _) | (with_reducible refine Kd.C_drew ?_) | exact HR217_1.out)⟩, ⟨by repeat (first | (with_reducible exact HR219_0.out) | (with_reducible refine Kd.C_alloc ?_ _) | (with_reducible refine Kd.C_drewN ?_ _) | (with_reducible refine Kd.C_drew ?_) | exact HR219_0.out)⟩, ⟨by repeat (first | (with_reducible exact HR219_1.out) | (with_reducible refine Kd.C_alloc ?_ _) | (with_reducible refine Kd.C_drewN ?_ _) | (with_reducible refine Kd.C_drew ?_) | exact HR219_1.out)⟩, ⟨by repeat (first | (with_reducible first | exact HB.out | apply below_alloc | apply pw_below_drewN | apply below_drew1 | refine below_set ?_ GE206.out) | exact HB.out)⟩⟩
                                    · rw [if_neg c31] at H
                                      exact absurd H (by simp)
                                  · rw [if_neg c30] at H
                                    exact absurd H (by simp)
                                · rw [if_neg c29] at H
                                  exact absurd H (by simp)
                              · rw [if_neg c28] at H
                                exact absurd H (by simp)
                            · rw [if_neg c27] at H
                              have c27b0 : decide (x11_3 < (l1.length : Int)) = false := decide_eq_false c27
                              clear c27
                              have H' := Aside0.mk H
                              clear H
                              go_wp2
                              go_roundg k3
                              case measure => have := HJ2.out; have := HK2.out; have := HK3.out; omega
                              case rel => exact ⟨(x9_2), (true), (wrap64 (x9_2 + 1)), (by first | rfl | (simp; done) | (simp [*]; done)), (by first | rfl | (simp; done) | (simp [*]; done)), (by first | rfl | (simp; done) | (simp [*]; done)), H', ⟨by have := HJ2.out; have := HK2.out; have := HK3.out; omega⟩, ⟨by (with_reducible repeat (first | apply Kd.N_alloc | apply Kd.N_drewN | apply Kd.N_drew)); exact HO_5.out⟩, ⟨by (with_reducible repeat (first | apply Kd.N_alloc | apply Kd.N_drewN | apply Kd.N_drew)); exact HO_6.out⟩, ⟨by (with_reducible repeat (first | refine blk_drewN ?_ _ | refine blk_drew ?_ | refine blk_alloc ?_ _)); exact BK206.out⟩, ⟨by repeat (first | (with_reducible first | exact HB.out | apply below_alloc | apply pw_below_drewN | apply below_drew1 | refine below_set ?_ GE206.out) | exact HB.out)⟩⟩
                          · replace c26 := Bool.eq_false_iff.mpr c26
                            subst c26
                            have H1 : (marquetrylaw16_SchemaLeaves.l0 k3 l1 t208 t211 x7_2 x8_2 (wrap64 (x9_2 + 1)) a0_0 l0_1) = some r := by rw [if_neg (show ¬ (false = true) by decide)] at H; exact H
                            clear H
                            have H := H1
                            clear H1
                            have H' := Aside0.mk H
                            clear H
                            go_wp2
                            go_roundg k3
                            case measure => have := HJ2.out; have := HK2.out; have := HK3.out; omega
                            case rel => exact ⟨(x7_2), (x8_2), (wrap64 (x9_2 + 1)), (by first | rfl | (simp; done) | (simp [*]; done)), (by first | rfl | (simp; done) | (simp [*]; done)), (by first | rfl | (simp; done) | (simp [*]; done)), H', ⟨by have := HJ2.out; have := HK2.out; have := HK3.out; omega⟩, ⟨by (with_reducible repeat (first | apply Kd.N_alloc | apply Kd.N_drewN | apply Kd.N_drew)); exact HO_5.out⟩, ⟨by (with_reducible repeat (first | apply Kd.N_alloc | apply Kd.N_drewN | apply Kd.N_drew)); exact HO_6.out⟩, ⟨by (with_reducible repeat (first | refine blk_drewN ?_ _ | refine blk_drew ?_ | refine blk_alloc ?_ _)); exact BK206.out⟩, ⟨by repeat (first | (with_reducible first | exact HB.out | apply below_alloc | apply pw_below_drewN | apply below_drew1 | refine below_set ?_ GE206.out) | exact HB.out)⟩⟩
                    · replace c23 := Bool.eq_false_iff.mpr c23
                      subst c23
                      have H1 : (some false) = some r := by rw [if_neg (show ¬ (false = true) by decide)] at H; exact H
                      clear H
                      have H := H1
                      clear H1
                      obtain rfl := Option.some.inj H
                      try go_wp2
                      have n0_ := Aside0.mk (Kd.N_drew HO_5.out)
                      have n1_ := Aside0.mk (Kd.N_drew HO_6.out)
                      have n2_ := Aside0.mk (blk_drew BK206.out)
                      have n3_ := Aside0.mk (below_drew1 HB.out)
                      clear HO_5
                      clear HO_6
                      clear BK206
                      clear HB
                      have HO_5 := n0_
                      have HO_6 := n1_
                      have BK206 := n2_
                      have HB := n3_
                      clear n0_ n1_ n2_ n3_
                      have p216 : 0 ≤ (x9_2 : Int) := of_decide_eq_true (by first | (with_reducible assumption) | assumption)
                      have q216 : x9_2 < (t208.length : Int) := of_decide_eq_true (by first | (with_reducible assumption) | assumption)
                      obtain ⟨ad216, A216_0, c216_0, A216_1, c216_1, e216, hx216_0, hx216_1, hx216_2, hx216_3, hx216_4, hx216_5, hl216_0, hi216_0, hl216_1, hi216_1⟩ := at_T52 (Kd.N_reads' HO_5.out).2.2 x9_2 p216 q216
                      cases e216
                      obtain ⟨ce216, hce216, hMe216, hcc216⟩ := Kd.N_get HO_5.out z52 x9_2 p216 (by first | exact q216 | exact of_decide_eq_true (by first | (with_reducible assumption) | assumption) | (have e_ := (Kd.N_reads' HO_5.out).1; omega))
                      obtain ⟨ua216_0, uc216_0, ua216_1, uc216_1, rfl, ul216_0, ge216_0, ul216_1, ge216_1⟩ := k52_openF hMe216
                      have hv216_0 := hcc216 0 _ rfl
                      rw [Nat.add_zero] at hv216_0
                      replace hv216_0 := Option.some.inj (hv216_0.symm.trans hx216_0)
                      injection hv216_0 with hva_ hvn_ hvc_
                      rw [hva_] at ge216_0
                      rw [hvc_] at ul216_0
                      have HL216_0 := Aside0.mk (show Kd.V Kd.string 9 _ w.heap.size _ _ ((rd_T52 t208 x9_2).f0) from Kd.V_mk ul216_0 ge216_0)
                      clear hva_ hvn_ hvc_ ge216_0 ul216_0
                      have hv216_1 := hcc216 1 _ rfl
                      rw [add_field _ _ 1 (by omega)] at hv216_1
                      replace hv216_1 := Option.some.inj (hv216_1.symm.trans hx216_1)
                      injection hv216_1 with hva_ hvn_ hvc_
                      rw [hva_] at ge216_1
                      rw [hvc_] at ul216_1
                      have HL216_1 := Aside0.mk (show Kd.V (Kd.int .i64) 40 _ w.heap.size _ _ ((rd_T52 t208 x9_2).f1) from Kd.V_mk ul216_1 ge216_1)
                      clear hva_ hvn_ hvc_ ge216_1 ul216_1
                      clear hcc216 hce216
                      have HR216_0 := Aside0.mk hi216_0
                      have HC216_0 := Aside0.mk hl216_0
                      clear hi216_0 hl216_0
                      have HR216_1 := Aside0.mk hi216_1
                      have HC216_1 := Aside0.mk hl216_1
                      clear hi216_1 hl216_1
                      replace p216 := eq_true p216
                      replace q216 := eq_true q216
                      have p217 : 0 ≤ (x9_2 : Int) := of_decide_eq_true (by first | (with_reducible assumption) | assumption)
                      have q217 : x9_2 < (t211.length : Int) := of_decide_eq_true (by first | (with_reducible assumption) | assumption)
                      obtain ⟨ad217, A217_0, c217_0, A217_1, c217_1, e217, hx217_0, hx217_1, hx217_2, hx217_3, hx217_4, hx217_5, hl217_0, hi217_0, hl217_1, hi217_1⟩ := at_T52 (Kd.N_reads' HO_6.out).2.2 x9_2 p217 q217
                      cases e217
                      obtain ⟨ce217, hce217, hMe217, hcc217⟩ := Kd.N_get HO_6.out z52 x9_2 p217 (by first | exact q217 | exact of_decide_eq_true (by first | (with_reducible assumption) | assumption) | (have e_ := (Kd.N_reads' HO_6.out).1; omega))
                      obtain ⟨ua217_0, uc217_0, ua217_1, uc217_1, rfl, ul217_0, ge217_0, ul217_1, ge217_1⟩ := k52_openF hMe217
                      have hv217_0 := hcc217 0 _ rfl
                      rw [Nat.add_zero] at hv217_0
                      replace hv217_0 := Option.some.inj (hv217_0.symm.trans hx217_0)
                      injection hv217_0 with hva_ hvn_ hvc_
                      rw [hva_] at ge217_0
                      rw [hvc_] at ul217_0
                      have HL217_0 := Aside0.mk (show Kd.V Kd.string 9 _ w.heap.size _ _ ((rd_T52 t211 x9_2).f0) from Kd.V_mk ul217_0 ge217_0)
                      clear hva_ hvn_ hvc_ ge217_0 ul217_0
                      have hv217_1 := hcc217 1 _ rfl
                      rw [add_field _ _ 1 (by omega)] at hv217_1
                      replace hv217_1 := Option.some.inj (hv217_1.symm.trans hx217_1)
                      injection hv217_1 with hva_ hvn_ hvc_
                      rw [hva_] at ge217_1
                      rw [hvc_] at ul217_1
                      have HL217_1 := Aside0.mk (show Kd.V (Kd.int .i64) 40 _ w.heap.size _ _ ((rd_T52 t211 x9_2).f1) from Kd.V_mk ul217_1 ge217_1)
                      clear hva_ hvn_ hvc_ ge217_1 ul217_1
                      clear hcc217 hce217
                      have HR217_0 := Aside0.mk hi217_0
                      have HC217_0 := Aside0.mk hl217_0
                      clear hi217_0 hl217_0
                      have HR217_1 := Aside0.mk hi217_1
                      have HC217_1 := Aside0.mk hl217_1
                      clear hi217_1 hl217_1
                      replace p217 := eq_true p217
                      replace q217 := eq_true q217
                      refine start_ (n := 10) (S := fun w' => w'.cell? (ad216.add ((x9_2).toNat * 6)) = some (.slice A216_0 ((rd_T52 t208 x9_2).f0).length c216_0) ∧ w'.cell? ⟨(ad216.add ((x9_2).toNat * 6)).block, (ad216.add ((x9_2).toNat * 6)).off + 1, none⟩ = some (.slice A216_1 ((rd_T52 t208 x9_2).f1).length c216_1) ∧ w'.cell? ⟨(ad216.add ((x9_2).toNat * 6)).block, (ad216.add ((x9_2).toNat * 6)).off + 2, none⟩ = some (.int .i64 ((rd_T52 t208 x9_2).f2)) ∧ w'.cell? ⟨(ad216.add ((x9_2).toNat * 6)).block, (ad216.add ((x9_2).toNat * 6)).off + 3, none⟩ = some (.int .i64 ((rd_T52 t208 x9_2).f3)) ∧ w'.cell? ⟨(ad216.add ((x9_2).toNat * 6)).block, (ad216.add ((x9_2).toNat * 6)).off + 4, none⟩ = some (.int .i64 ((rd_T52 t208 x9_2).f4.f0)) ∧ w'.cell? ⟨(ad216.add ((x9_2).toNat * 6)).block, (ad216.add ((x9_2).toNat * 6)).off + 5, none⟩ = some (.int .i64 ((rd_T52 t208 x9_2).f4.f1)) ∧ w'.cell? (ad217.add ((x9_2).toNat * 6)) = some (.slice A217_0 ((rd_T52 t211 x9_2).f0).length c217_0) ∧ w'.cell? ⟨(ad217.add ((x9_2).toNat * 6)).block, (ad217.add ((x9_2).toNat * 6)).off + 1, none⟩ = some (.slice A217_1 ((rd_T52 t211 x9_2).f1).length c217_1) ∧ w'.cell? ⟨(ad217.add ((x9_2).toNat * 6)).block, (ad217.add ((x9_2).toNat * 6)).off + 2, none⟩ = some (.int .i64 ((rd_T52 t211 x9_2).f2)) ∧ w'.cell? ⟨(ad217.add ((x9_2).toNat * 6)).block, (ad217.add ((x9_2).toNat * 6)).off + 3, none⟩ = some (.int .i64 ((rd_T52 t211 x9_2).f3)) ∧ w'.cell? ⟨(ad217.add ((x9_2).toNat * 6)).block, (ad217.add ((x9_2).toNat * 6)).off + 4, none⟩ = some (.int .i64 ((rd_T52 t211 x9_2).f4.f0)) ∧ w'.cell? ⟨(ad217.add ((x9_2).toNat * 6)).block, (ad217.add ((x9_2).toNat * 6)).off + 5, none⟩ = some (.int .i64 ((rd_T52 t211 x9_2).f4.f1))) (ds := []) #[false, false, false, false, false, false, false, false, false, false] (by kernel_rfl) rfl rfl ⟨hx216_0, hx216_1, hx216_2, hx216_3, hx216_4, hx216_5, hx217_0, hx217_1, hx217_2, hx217_3, hx217_4, hx217_5⟩ (fun hHeld => ?_); refine with_tabW marquetrylaw16_SchemaLeaves.tab11 marquetrylaw16_SchemaLeaves.bits11 (fun HT_ HW_ => ?_)
                      generalize wr.drew = w33 at HO_5 HO_6 BK206 HB HL216_0 HL216_1 HL217_0 HL217_1 HR216_0 HR216_1 HR217_0 HR217_1 hx216_0 hx216_1 hx216_2 hx216_3 hx216_4 hx216_5 hx217_0 hx217_1 hx217_2 hx217_3 hx217_4 hx217_5 hHeld ⊢
                      refine pure_ (i := 0) (N := some 38) (v := ?_) (a' := ?_) #[true, false, false, false, false, false, false, false, false, false] rfl rfl (any_of HT_.out (by kernel_rfl)) (fun _ _ _ h => h) (Or.inl ⟨by rfl, ?_⟩) ?_ ?_
                      rotate_left
                      · intro w'
                        go_simp
                        with_reducible rfl
                      rotate_left
                      · simp only [Act.put, List.setIfInBounds_toArray, List.set_cons_zero, List.set_cons_succ, i64_w, i32_w]
                        rfl
                      refine pure_ (i := 1) (N := some 39) (v := ?_) (a' := ?_) #[true, true, false, false, false, false, false, false, false, false] rfl rfl (any_of HT_.out (by kernel_rfl)) (fun _ _ _ h => h) (Or.inl ⟨by rfl, ?_⟩) ?_ ?_
                      rotate_left
                      · intro w'
                        go_simp
                        with_reducible rfl
                      rotate_left
                      · simp only [Act.put, List.setIfInBounds_toArray, List.set_cons_zero, List.set_cons_succ, i64_w, i32_w]
                        rfl
                      refine pure_ (i := 2) (N := some 40) (v := ?_) (a' := ?_) #[true, true, true, false, false, false, false, false, false, false] rfl rfl (any_of HT_.out (by kernel_rfl)) (fun _ _ _ h => h) (Or.inl ⟨by rfl, ?_⟩) ?_ ?_
                      rotate_left
                      · intro w'
                        go_simp
                        with_reducible rfl
                      rotate_left
                      · simp only [Act.put, List.setIfInBounds_toArray, List.set_cons_zero, List.set_cons_succ, i64_w, i32_w]
                        rfl
                      refine pure_ (i := 4) (N := some 42) (v := ?_) (a' := ?_) #[true, true, true, false, true, false, false, false, false, false] rfl rfl (any_of HT_.out (by kernel_rfl)) (fun _ _ _ h => h) (Or.inl ⟨by rfl, ?_⟩) ?_ ?_
                      rotate_left
                      · intro w'
                        go_simp
                        with_reducible rfl
                      rotate_left
                      · simp only [Act.put, List.setIfInBounds_toArray, List.set_cons_zero, List.set_cons_succ, i64_w, i32_w]
                        rfl
                      refine pure_ (i := 5) (N := some 43) (v := ?_) (a' := ?_) #[true, true, true, false, true, true, false, false, false, false] rfl rfl (any_of HT_.out (by kernel_rfl)) (fun _ _ _ h => h) (Or.inl ⟨by rfl, ?_⟩) ?_ ?_
                      rotate_left
                      · intro w'
                        go_simp
                        with_reducible rfl
                      rotate_left
                      · simp only [Act.put, List.setIfInBounds_toArray, List.set_cons_zero, List.set_cons_succ, i64_w, i32_w]
                        rfl
                      refine pure_ (i := 6) (N := some 44) (v := ?_) (a' := ?_) #[true, true, true, false, true, true, true, false, false, false] rfl rfl (any_of HT_.out (by kernel_rfl)) (fun _ _ _ h => h) (Or.inl ⟨by rfl, ?_⟩) ?_ ?_
                      rotate_left
                      · intro w'
                        go_simp
                        with_reducible rfl
                      rotate_left
                      · simp only [Act.put, List.setIfInBounds_toArray, List.set_cons_zero, List.set_cons_succ, i64_w, i32_w]
                        rfl
                      refine take_ (i := 3) (N := some 41) (v := ?_) (a' := ?_) #[true, true, true, true, true, true, true, false, false, false] rfl rfl (take_ofW HT_.out HW_.out (by kernel_rfl)) (fun _ _ _ h => h) (Or.inl ⟨by rfl, ?_⟩) hHeld ?_ ?_
                      rotate_left
                      · rintro w' ⟨s0, s1, s2, s3, s4, s5, s6, s7, s8, s9, s10, s11⟩
                        go_simp
                        with_reducible rfl
                      rotate_left
                      · simp only [Act.put, List.setIfInBounds_toArray, List.set_cons_zero, List.set_cons_succ, i64_w, i32_w]
                        rfl
                      refine take_ (i := 7) (N := some 45) (v := ?_) (a' := ?_) #[true, true, true, true, true, true, true, true, false, false] rfl rfl (take_ofW HT_.out HW_.out (by kernel_rfl)) (fun _ _ _ h => h) (Or.inl ⟨by rfl, ?_⟩) hHeld ?_ ?_
                      rotate_left
                      · rintro w' ⟨s0, s1, s2, s3, s4, s5, s6, s7, s8, s9, s10, s11⟩
                        go_simp
                        with_reducible rfl
                      rotate_left
                      · simp only [Act.put, List.setIfInBounds_toArray, List.set_cons_zero, List.set_cons_succ, i64_w, i32_w]
                        rfl
                      refine one_ (i := 8) (N := some 46) #[true, true, true, true, true, true, true, true, true, false] rfl rfl (one_of HT_.out (by kernel_rfl)) (by decide) (fun K hK => ?_)
                      refine goes_ Tryd.func20 (by kernel_rfl) rfl #[.agg #[.slice A216_0 ((rd_T52 t208 x9_2).f0).length c216_0, .slice A216_1 ((rd_T52 t208 x9_2).f1).length c216_1, .int .i64 ((rd_T52 t208 x9_2).f2), .int .i64 ((rd_T52 t208 x9_2).f3), .int .i64 ((rd_T52 t208 x9_2).f4.f0), .int .i64 ((rd_T52 t208 x9_2).f4.f1)], .agg #[.slice A217_0 ((rd_T52 t211 x9_2).f0).length c217_0, .slice A217_1 ((rd_T52 t211 x9_2).f1).length c217_1, .int .i64 ((rd_T52 t211 x9_2).f2), .int .i64 ((rd_T52 t211 x9_2).f3), .int .i64 ((rd_T52 t211 x9_2).f4.f0), .int .i64 ((rd_T52 t211 x9_2).f4.f1)]] (by rfl) rfl rfl (by (try simp only [List.map_toArray, List.map_cons, List.map_nil]); first | done | rfl | (simp only [List.length_drop, List.length_take]; rfl)) ?_
                      with_reducible refine (marquetryref16_SameLeaf.calls k2 _ _ ((rd_T52 t208 x9_2).f0) _ _ ((rd_T52 t208 x9_2).f1) ((rd_T52 t208 x9_2).f2) ((rd_T52 t208 x9_2).f3) ((rd_T52 t208 x9_2).f4.f0) ((rd_T52 t208 x9_2).f4.f1) _ _ ((rd_T52 t211 x9_2).f0) _ _ ((rd_T52 t211 x9_2).f1) ((rd_T52 t211 x9_2).f2) ((rd_T52 t211 x9_2).f3) ((rd_T52 t211 x9_2).f4.f0) ((rd_T52 t211 x9_2).f4.f1) false _ ?side1 ?side2 ?side3 ?side4 ?side5 ?side6 ?side7 ?side8 A22.out).mono ?_
                      (case side1 => repeat (first | exact (by repeat (first | (with_reducible exact HR216_0.out) | (with_reducible refine Kd.C_alloc ?_ _) | (with_reducible refine Kd.C_drewN ?_ _) | (with_reducible refine Kd.C_drew ?_) | exact HR216_0.out)) | (with_reducible refine Kd.C_alloc ?_ _) | (with_reducible refine Kd.C_drewN ?_ _) | (with_reducible refine Kd.C_drew ?_)))
                      (case side2 => exact HC216_0.out)
                      (case side3 => repeat (first | exact (by repeat (first | (with_reducible exact HR216_1.out) | (with_reducible refine Kd.C_alloc ?_ _) | (with_reducible refine Kd.C_drewN ?_ _) | (with_reducible refine Kd.C_drew ?_) | exact HR216_1.out)) | (with_reducible refine Kd.C_alloc ?_ _) | (with_reducible refine Kd.C_drewN ?_ _) | (with_reducible refine Kd.C_drew ?_)))
                      (case side4 => exact HC216_1.out)
                      (case side5 => repeat (first | exact (by repeat (first | (with_reducible exact HR217_0.out) | (with_reducible refine Kd.C_alloc ?_ _) | (with_reducible refine Kd.C_drewN ?_ _) | (with_reducible refine Kd.C_drew ?_) | exact HR217_0.out)) | (with_reducible refine Kd.C_alloc ?_ _) | (with_reducible refine Kd.C_drewN ?_ _) | (with_reducible refine Kd.C_drew ?_)))
                      (case side6 => exact HC217_0.out)
                      (case side7 => repeat (first | exact (by repeat (first | (with_reducible exact HR217_1.out) | (with_reducible refine Kd.C_alloc ?_ _) | (with_reducible refine Kd.C_drewN ?_ _) | (with_reducible refine Kd.C_drew ?_) | exact HR217_1.out)) | (with_reducible refine Kd.C_alloc ?_ _) | (with_reducible refine Kd.C_drewN ?_ _) | (with_reducible refine Kd.C_drew ?_)))
                      (case side8 => exact HC217_1.out)
                      rintro e w34 ⟨rfl, hb⟩
                      have HS0_ := (hb.cell (World.block_lt_of_cell? _ _ (hHeld.1))).trans (hHeld.1)
                      have HS1_ := (hb.cell (World.block_lt_of_cell? _ _ (hHeld.2.1))).trans (hHeld.2.1)
                      have HS2_ := (hb.cell (World.block_lt_of_cell? _ _ (hHeld.2.2.1))).trans (hHeld.2.2.1)
                      have HS3_ := (hb.cell (World.block_lt_of_cell? _ _ (hHeld.2.2.2.1))).trans (hHeld.2.2.2.1)
                      have HS4_ := (hb.cell (World.block_lt_of_cell? _ _ (hHeld.2.2.2.2.1))).trans (hHeld.2.2.2.2.1)
                      have HS5_ := (hb.cell (World.block_lt_of_cell? _ _ (hHeld.2.2.2.2.2.1))).trans (hHeld.2.2.2.2.2.1)
                      have HS6_ := (hb.cell (World.block_lt_of_cell? _ _ (hHeld.2.2.2.2.2.2.1))).trans (hHeld.2.2.2.2.2.2.1)
                      have HS7_ := (hb.cell (World.block_lt_of_cell? _ _ (hHeld.2.2.2.2.2.2.2.1))).trans (hHeld.2.2.2.2.2.2.2.1)
                      have HS8_ := (hb.cell (World.block_lt_of_cell? _ _ (hHeld.2.2.2.2.2.2.2.2.1))).trans (hHeld.2.2.2.2.2.2.2.2.1)
                      have HS9_ := (hb.cell (World.block_lt_of_cell? _ _ (hHeld.2.2.2.2.2.2.2.2.2.1))).trans (hHeld.2.2.2.2.2.2.2.2.2.1)
                      have HS10_ := (hb.cell (World.block_lt_of_cell? _ _ (hHeld.2.2.2.2.2.2.2.2.2.2.1))).trans (hHeld.2.2.2.2.2.2.2.2.2.2.1)
                      have HS11_ := (hb.cell (World.block_lt_of_cell? _ _ (hHeld.2.2.2.2.2.2.2.2.2.2.2))).trans (hHeld.2.2.2.2.2.2.2.2.2.2.2)
                      refine ⟨_, rfl, ?_⟩
                      have n0_ := Aside0.mk (Kd.N_below (by (with_reducible repeat (first | apply Kd.N_alloc | apply Kd.N_drewN | apply Kd.N_drew)); exact HO_5.out) hb)
                      have n1_ := Aside0.mk (Kd.N_below (by (with_reducible repeat (first | apply Kd.N_alloc | apply Kd.N_drewN | apply Kd.N_drew)); exact HO_6.out) hb)
                      have n2_ := Aside0.mk (Kd.V_below (by (with_reducible repeat (first | apply Kd.V_alloc | apply Kd.V_drewN | apply Kd.V_drew)); exact HL216_0.out) hb)
                      have n3_ := Aside0.mk (Kd.V_below (by (with_reducible repeat (first | apply Kd.V_alloc | apply Kd.V_drewN | apply Kd.V_drew)); exact HL216_1.out) hb)
                      have n4_ := Aside0.mk (Kd.V_below (by (with_reducible repeat (first | apply Kd.V_alloc | apply Kd.V_drewN | apply Kd.V_drew)); exact HL217_0.out) hb)
                      have n5_ := Aside0.mk (Kd.V_below (by (with_reducible repeat (first | apply Kd.V_alloc | apply Kd.V_drewN | apply Kd.V_drew)); exact HL217_1.out) hb)
                      have n6_ := Aside0.mk (blk_below (g := gb206) (o := .cells #[.string a0_0, .slice A0_1 l0_1.length c0_1] 24 (0, 0)) (by (with_reducible repeat (first | refine blk_drewN ?_ _ | refine blk_drew ?_ | refine blk_alloc ?_ _)); exact BK206.out) hb)
                      have n7_ := Aside0.mk (Kd.C_below (by repeat (first | (with_reducible exact HR216_0.out) | (with_reducible refine Kd.C_alloc ?_ _) | (with_reducible refine Kd.C_drewN ?_ _) | (with_reducible refine Kd.C_drew ?_) | exact HR216_0.out)) hb)
                      have n8_ := Aside0.mk (Kd.C_below (by repeat (first | (with_reducible exact HR216_1.out) | (with_reducible refine Kd.C_alloc ?_ _) | (with_reducible refine Kd.C_drewN ?_ _) | (with_reducible refine Kd.C_drew ?_) | exact HR216_1.out)) hb)
                      have n9_ := Aside0.mk (Kd.C_below (by repeat (first | (with_reducible exact HR217_0.out) | (with_reducible refine Kd.C_alloc ?_ _) | (with_reducible refine Kd.C_drewN ?_ _) | (with_reducible refine Kd.C_drew ?_) | exact HR217_0.out)) hb)
                      have n10_ := Aside0.mk (Kd.C_below (by repeat (first | (with_reducible exact HR217_1.out) | (with_reducible refine Kd.C_alloc ?_ _) | (with_reducible refine Kd.C_drewN ?_ _) | (with_reducible refine Kd.C_drew ?_) | exact HR217_1.out)) hb)
                      have n11_ := Aside0.mk (below_step (by repeat (first | (with_reducible first | exact HB.out | apply below_alloc | apply pw_below_drewN | apply below_drew1 | refine below_set ?_ GE206.out) | exact HB.out)) hb)
                      clear HO_5
                      clear HO_6
                      clear HL216_0
                      clear HL216_1
                      clear HL217_0
                      clear HL217_1
                      clear BK206
                      clear HR216_0
                      clear HR216_1
                      clear HR217_0
                      clear HR217_1
                      clear HB
                      have HO_5 := n0_
                      have HO_6 := n1_
                      have HL216_0 := n2_
                      have HL216_1 := n3_
                      have HL217_0 := n4_
                      have HL217_1 := n5_
                      have BK206 := n6_
                      have HR216_0 := n7_
                      have HR216_1 := n8_
                      have HR217_0 := n9_
                      have HR217_1 := n10_
                      have HB := n11_
                      clear n0_ n1_ n2_ n3_ n4_ n5_ n6_ n7_ n8_ n9_ n10_ n11_
                      (try clear hb)
                      (try clear hb2)
                      (try clear hk)
                      (try clear hi)
                      refine hK.out _ _ ⟨HS0_, HS1_, HS2_, HS3_, HS4_, HS5_, HS6_, HS7_, HS8_, HS9_, HS10_, HS11_⟩ (fun hHeld => ?_)
                      clear hK K
                      refine norm_ (a' := ?_) ?_ ?_
                      rotate_left
                      · show Act.put _ (some 46) _ = _
                        simp only [Act.put, List.setIfInBounds_toArray, List.set_cons_zero, List.set_cons_succ, i64_w, i32_w]
                        rfl
                      refine pure_ (i := 9) (N := some 47) (v := ?_) (a' := ?_) #[true, true, true, true, true, true, true, true, true, true] rfl rfl (any_of HT_.out (by kernel_rfl)) (fun _ _ _ h => h) (Or.inl ⟨by rfl, ?_⟩) ?_ ?_
                      rotate_left
                      · intro w'
                        go_simp
                        with_reducible rfl
                      rotate_left
                      · simp only [Act.put, List.setIfInBounds_toArray, List.set_cons_zero, List.set_cons_succ, i64_w, i32_w]
                        rfl
                      refine done_ (done_of HT_.out (by kernel_rfl)) ?_
                      try go_wp2
                      go_ret
                      exact ⟨by first | rfl | (simp [errW_none, errW_some] <;> rfl) | (simp [*, errW_none, errW_some] <;> rfl), by repeat (first | (with_reducible first | exact HB.out | apply below_alloc | apply pw_below_drewN | apply below_drew1 | refine below_set ?_ GE206.out) | exact HB.out)⟩
                  · rw [if_neg c21] at H
                    exact absurd H (by simp)
                · rw [if_neg c20] at H
                  exact absurd H (by simp)
              · rw [if_neg c19] at H
                have c19b0 : decide (x9_2 < (t208.length : Int)) = false := decide_eq_false c19
                clear c19
                replace H := Option.bind_eq_some_iff.mp H
                obtain ⟨⟨t214, t215⟩, A350, H⟩ := H
                replace H : (if t214 = x7_2 then (some (t215 == x8_2)) else (some false)) = some r := H
                have A35 := Aside0.mk A350
                clear A350
                by_cases c36 : t214 = x7_2
                · rw [if_pos c36] at H
                  have c36b0 : (t214 == x7_2) = true := beq_iff_eq.mpr c36
                  have c36b1 : (t214 != x7_2) = false := bne_eq_false_iff_eq.mpr c36
                  clear c36
                  obtain rfl := Option.some.inj H
                  have hcz37_0 : wr.cell? ⟨gb206, 0, none⟩ = some (.string a0_0) := (blk_cell BK206.out 0).trans rfl
                  have hcz37_1 : wr.cell? ⟨gb206, 1, none⟩ = some (.slice A0_1 l0_1.length c0_1) := (blk_cell BK206.out 1).trans rfl
                  have hfz37_0 := blk_frozen BK206.out 0
                  have hfz37_1 := blk_frozen BK206.out 1
                  go_wp2_with (first | ((with_reducible refine gate_callee (f := 21) rfl ?_); refine goesL_ (some 84) rfl rfl Tryd.func21 (by kernel_rfl) rfl #[.agg #[.string a0_0, .slice A0_1 l0_1.length c0_1], .slice A1 l1.length c1] rfl (by (try simp only [List.map_toArray, List.map_cons, List.map_nil]); first | done | rfl | (simp only [List.length_drop, List.length_take]; rfl)) ?_; (with_reducible refine (schema_Find.calls a0_0 _ _ l0_1 _ _ l1 t214 t215 _ ?side1 ?side2 ?side3 ?side4 A35.out).mono ?_); (case side1 => repeat (first | exact (Kd.C_below HR0_1.out HB.out) | (with_reducible refine Kd.C_alloc ?_ _) | (with_reducible refine Kd.C_drewN ?_ _) | (with_reducible refine Kd.C_drew ?_))); (case side2 => exact HC0_1.out); (case side3 => repeat (first | exact (Kd.C_below HR1.out HB.out) | (with_reducible refine Kd.C_alloc ?_ _) | (with_reducible refine Kd.C_drewN ?_ _) | (with_reducible refine Kd.C_drew ?_))); (case side4 => exact HC1.out); rintro e w38 ⟨rfl, hb⟩; refine ⟨_, rfl, ?_⟩; have n0_ := Aside0.mk (Kd.N_below (by (with_reducible repeat (first | apply Kd.N_alloc | apply Kd.N_drewN | apply Kd.N_drew)); exact HO_5.out) hb); have n1_ := Aside0.mk (Kd.N_below (by (with_reducible repeat (first | apply Kd.N_alloc | apply Kd.N_drewN | apply Kd.N_drew)); exact HO_6.out) hb); have n2_ := Aside0.mk (blk_below (g := gb206) (o := .cells #[.string a0_0, .slice A0_1 l0_1.length c0_1] 24 (0, 0)) (by (with_reducible repeat (first | refine blk_drewN ?_ _ | refine blk_drew ?_ | refine blk_alloc ?_ _)); exact BK206.out) hb); have n3_ := Aside0.mk (below_step (by repeat (first | (with_reducible first | exact HB.out | apply below_alloc | apply pw_below_drewN | apply below_drew1 | refine below_set ?_ GE206.out) | exact HB.out)) hb); clear HO_5; clear HO_6; clear BK206; clear HB; have HO_5 := n0_; have HO_6 := n1_; have BK206 := n2_; have HB := n3_; clear n0_ n1_ n2_ n3_; (try clear hb); (try clear hb2); (try clear hk); (try clear hi)))
                  go_ret
                  exact ⟨by first | rfl | (simp [errW_none, errW_some] <;> rfl) | (simp [*, errW_none, errW_some] <;> rfl), by repeat (first | (with_reducible first | exact HB.out | apply below_alloc | apply pw_below_drewN | apply below_drew1 | refine below_set ?_ GE206.out) | exact HB.out)⟩
                · rw [if_neg c36] at H
                  have c36b0 : (t214 == x7_2) = false := beq_eq_false_iff_ne.mpr c36
                  have c36b1 : (t214 != x7_2) = true := bne_iff_ne.mpr c36
                  obtain rfl := Option.some.inj H
                  have hcz39_0 : wr.cell? ⟨gb206, 0, none⟩ = some (.string a0_0) := (blk_cell BK206.out 0).trans rfl
                  have hcz39_1 : wr.cell? ⟨gb206, 1, none⟩ = some (.slice A0_1 l0_1.length c0_1) := (blk_cell BK206.out 1).trans rfl
                  have hfz39_0 := blk_frozen BK206.out 0
                  have hfz39_1 := blk_frozen BK206.out 1
                  go_wp2_with (first | ((with_reducible refine gate_callee (f := 21) rfl ?_); refine goesL_ (some 84) rfl rfl Tryd.func21 (by kernel_rfl) rfl #[.agg #[.string a0_0, .slice A0_1 l0_1.length c0_1], .slice A1 l1.length c1] rfl (by (try simp only [List.map_toArray, List.map_cons, List.map_nil]); first | done | rfl | (simp only [List.length_drop, List.length_take]; rfl)) ?_; (with_reducible refine (schema_Find.calls a0_0 _ _ l0_1 _ _ l1 t214 t215 _ ?side1 ?side2 ?side3 ?side4 A35.out).mono ?_); (case side1 => repeat (first | exact (Kd.C_below HR0_1.out HB.out) | (with_reducible refine Kd.C_alloc ?_ _) | (with_reducible refine Kd.C_drewN ?_ _) | (with_reducible refine Kd.C_drew ?_))); (case side2 => exact HC0_1.out); (case side3 => repeat (first | exact (Kd.C_below HR1.out HB.out) | (with_reducible refine Kd.C_alloc ?_ _) | (with_reducible refine Kd.C_drewN ?_ _) | (with_reducible refine Kd.C_drew ?_))); (case side4 => exact HC1.out); rintro e w40 ⟨rfl, hb⟩; refine ⟨_, rfl, ?_⟩; have n0_ := Aside0.mk (Kd.N_below (by (with_reducible repeat (first | apply Kd.N_alloc | apply Kd.N_drewN | apply Kd.N_drew)); exact HO_5.out) hb); have n1_ := Aside0.mk (Kd.N_below (by (with_reducible repeat (first | apply Kd.N_alloc | apply Kd.N_drewN | apply Kd.N_drew)); exact HO_6.out) hb); have n2_ := Aside0.mk (blk_below (g := gb206) (o := .cells #[.string a0_0, .slice A0_1 l0_1.length c0_1] 24 (0, 0)) (by (with_reducible repeat (first | refine blk_drewN ?_ _ | refine blk_drew ?_ | refine blk_alloc ?_ _)); exact BK206.out) hb); have n3_ := Aside0.mk (below_step (by repeat (first | (with_reducible first | exact HB.out | apply below_alloc | apply pw_below_drewN | apply below_drew1 | refine below_set ?_ GE206.out) | exact HB.out)) hb); clear HO_5; clear HO_6; clear BK206; clear HB; have HO_5 := n0_; have HO_6 := n1_; have BK206 := n2_; have HB := n3_; clear n0_ n1_ n2_ n3_; (try clear hb); (try clear hb2); (try clear hk); (try clear hi)))
                  go_ret
                  exact ⟨by first | rfl | (simp [errW_none, errW_some] <;> rfl) | (simp [*, errW_none, errW_some] <;> rfl), by repeat (first | (with_reducible first | exact HB.out | apply below_alloc | apply pw_below_drewN | apply below_drew1 | refine below_set ?_ GE206.out) | exact HB.out)⟩
        · rw [if_neg c12] at H
          have c12b0 : ((t208.length : Int) == (t211.length : Int)) = false := beq_eq_false_iff_ne.mpr c12
          have c12b1 : ((t208.length : Int) != (t211.length : Int)) = true := bne_iff_ne.mpr c12
          have c12b2 : (t208.length == t211.length) = false := by first | simpa using c12 | (simp at c12 ⊢; omega)
          obtain rfl := Option.some.inj H
          have hcz41_0 : wc.cell? ⟨gb206, 0, none⟩ = some (.string a0_0) := (blk_cell BK206.out 0).trans rfl
          have hcz41_1 : wc.cell? ⟨gb206, 1, none⟩ = some (.slice A0_1 l0_1.length c0_1) := (blk_cell BK206.out 1).trans rfl
          have hfz41_0 := blk_frozen BK206.out 0
          have hfz41_1 := blk_frozen BK206.out 1
          go_wp2_with (first | ((with_reducible refine gate_callee (f := 18) rfl ?_); refine goesL_ (some 24) rfl rfl Tryd.func18 (by kernel_rfl) rfl #[.agg #[.string a0_0, .slice A0_1 l0_1.length c0_1]] rfl (by (try simp only [List.map_toArray, List.map_cons, List.map_nil]); first | done | rfl | (simp only [List.length_drop, List.length_take]; rfl)) ?_; (with_reducible refine (schema_Leaves.calls a0_0 _ _ l0_1 t208 _ ?side1 ?side2 A10.out).mono ?_); (case side1 => repeat (first | exact (Kd.C_below HR0_1.out HB.out) | (with_reducible refine Kd.C_alloc ?_ _) | (with_reducible refine Kd.C_drewN ?_ _) | (with_reducible refine Kd.C_drew ?_))); (case side2 => exact HC0_1.out); rintro e w42 ⟨v209, rfl, ho0, hb⟩; refine ⟨_, rfl, ?_⟩; have n0_ := Aside0.mk (Kd.N_lower (Kd.N_mono (ok' := fun k_ => k_ ≠ gb206) (Kd.S_N (Kd.S_bound ho0)) (fun k_ hk_ => (Kd.freshB (g := gb206) (o := .cells #[.string a0_0, .slice A0_1 l0_1.length c0_1] 24 (0, 0)) (by (with_reducible repeat (first | refine blk_drewN ?_ _ | refine blk_drew ?_ | refine blk_alloc ?_ _)); exact BK206.out) k_ hk_.2.1))) (below_size (by repeat (first | (with_reducible first | exact HB.out | apply below_alloc | apply pw_below_drewN | apply below_drew1 | refine below_set ?_ GE206.out) | exact HB.out)))); have n1_ := Aside0.mk (blk_below (g := gb206) (o := .cells #[.string a0_0, .slice A0_1 l0_1.length c0_1] 24 (0, 0)) (by (with_reducible repeat (first | refine blk_drewN ?_ _ | refine blk_drew ?_ | refine blk_alloc ?_ _)); exact BK206.out) hb); have n2_ := Aside0.mk (below_step (by repeat (first | (with_reducible first | exact HB.out | apply below_alloc | apply pw_below_drewN | apply below_drew1 | refine below_set ?_ GE206.out) | exact HB.out)) hb); clear BK206; clear HB; have HO210 := n0_; have BK206 := n1_; have HB := n2_; clear n0_ n1_ n2_; (try clear hb); (try clear hb2); (try clear hk); (try clear hi); (try clear ho0); have hcz43_0 : w42.cell? ⟨gb206, 0, none⟩ = some (.string a0_0) := (blk_cell BK206.out 0).trans rfl; have hcz43_1 : w42.cell? ⟨gb206, 1, none⟩ = some (.slice A0_1 l0_1.length c0_1) := (blk_cell BK206.out 1).trans rfl; have hfz43_0 := blk_frozen BK206.out 0; have hfz43_1 := blk_frozen BK206.out 1) | ((with_reducible refine gate_callee (f := 19) rfl ?_); refine goesL_ (some 26) rfl rfl Tryd.func19 (by kernel_rfl) rfl #[.agg #[.string a0_0, .slice A0_1 l0_1.length c0_1]] rfl (by (try simp only [List.map_toArray, List.map_cons, List.map_nil]); first | done | rfl | (simp only [List.length_drop, List.length_take]; rfl)) ?_; (with_reducible refine (marquetryref16_Leaves.calls kj2 a0_0 _ _ l0_1 t211 _ ?side1 ?side2 A11.out).mono ?_); (case side1 => repeat (first | exact (Kd.C_below HR0_1.out HB.out) | (with_reducible refine Kd.C_alloc ?_ _) | (with_reducible refine Kd.C_drewN ?_ _) | (with_reducible refine Kd.C_drew ?_))); (case side2 => exact HC0_1.out); rintro e w44 ⟨v212, rfl, ho0, hb⟩; refine ⟨_, rfl, ?_⟩; have n0_ := Aside0.mk (Kd.N_elder' (by (with_reducible repeat (first | apply Kd.N_alloc | apply Kd.N_drewN | apply Kd.N_drew)); exact HO210.out) (Kd.N_base ho0) hb); have n1_ := Aside0.mk (Kd.N_lower (Kd.N_mono (ok' := fun k_ => some k_ ≠ (v209 : Value).ownBlock ∧ k_ ≠ gb206) ho0 (fun k_ hk_ => ⟨(Kd.fresh' (Kd.N_lt (by (with_reducible repeat (first | apply Kd.N_alloc | apply Kd.N_drewN | apply Kd.N_drew)); exact HO210.out)) k_ hk_), (Kd.freshB (g := gb206) (o := .cells #[.string a0_0, .slice A0_1 l0_1.length c0_1] 24 (0, 0)) (by (with_reducible repeat (first | refine blk_drewN ?_ _ | refine blk_drew ?_ | refine blk_alloc ?_ _)); exact BK206.out) k_ hk_)⟩)) (below_size (by repeat (first | (with_reducible first | exact HB.out | apply below_alloc | apply pw_below_drewN | apply below_drew1 | refine below_set ?_ GE206.out) | exact HB.out)))); have n2_ := Aside0.mk (blk_below (g := gb206) (o := .cells #[.string a0_0, .slice A0_1 l0_1.length c0_1] 24 (0, 0)) (by (with_reducible repeat (first | refine blk_drewN ?_ _ | refine blk_drew ?_ | refine blk_alloc ?_ _)); exact BK206.out) hb); have n3_ := Aside0.mk (below_step (by repeat (first | (with_reducible first | exact HB.out | apply below_alloc | apply pw_below_drewN | apply below_drew1 | refine below_set ?_ GE206.out) | exact HB.out)) hb); clear HO210; clear BK206; clear HB; have HO210 := n0_; have HO213 := n1_; have BK206 := n2_; have HB := n3_; clear n0_ n1_ n2_ n3_; (try clear hb); (try clear hb2); (try clear hk); (try clear hi); (try clear ho0); obtain ⟨Ao45, co45, eo45⟩ := Kd.N_slice HO210.out; subst eo45; obtain ⟨Ao46, co46, eo46⟩ := Kd.N_slice HO213.out; subst eo46))
          go_ret
          exact ⟨by first | rfl | (simp [errW_none, errW_some] <;> rfl) | (simp [*, errW_none, errW_some] <;> rfl), by repeat (first | (with_reducible first | exact HB.out | apply below_alloc | apply pw_below_drewN | apply below_drew1 | refine below_set ?_ GE206.out) | exact HB.out)⟩

end Go.Proofs.YtjdjlccdidfgoaaDoor.H
end
