/- Texts of the claim, packed: H24. -/
import Derived.BigRegion
import Derived.Deep.Cut
import Derived.Deep.RegionHeld3
import Derived.Deep.RegionWith
import Derived.Lib.Hide
import Derived.Test.YtjdjlccdidfgoaaDoorZSchemaCheck7
import Derived.Test.YtjdjlccdidfgoaaDoorZSchemaCheck10
import Derived.Test.YtjdjlccdidfgoaaDoorZSchemaCheck11
import Derived.Test.YtjdjlccdidfgoaaDoorZSchemaCheck12
section
-- Laid by this session's hprint.py, out of the kit's print.py and texts of the session. Not trusted: Lean checks it.
namespace Go.Proofs.YtjdjlccdidfgoaaDoor.H
open Go.RowKit Go.Proofs.YtjdjlccdidfgoaaDoorW.PrintWords Go.Proofs.YtjdjlccdidfgoaaDoorW.PrintLast Go.Proofs.YtjdjlccdidfgoaaDoorW.PrintMore
attribute [local go_sem] max2_int min2_int max_two min_two max_three min_three max_four min_four   -- for this text's walks alone
set_option linter.unusedVariables false
set_option linter.unusedSimpArgs false

-- OVPART Derived.Lib.Hide Derived.Deep.RegionHeld3 Derived.BigRegion Derived.Deep.RegionWith Derived.Deep.Cut
/-! ### marquetrylaw16_SchemaCheck: function 3 -/
theorem tkN_ {P : Program} {ops : Array Oper} {Q : Exit → Act → World → Prop} {S : World → Prop} {md : Region.Mode} (i : Nat) (N : Option Tmp) {oi : Oper} {rest : List Oper} {fuel : Nat} {listed : Array Bool} {a a' : Act} {w : World} (hl : ops.toList.drop i = oi :: rest) (hN : oi.dst = N)
    (hs : Region.noSelect ops = true) (hf : Region.free md ops listed i = true) (hr : (Region.ready md ops listed).contains i = true)
    (hQ : ∀ c a w, Q (.panic c) (a.put N undef) w → Q (.panic c) a w) (hw : Region.wanted oi (yielded ops a.tmps) = false) (hS : S w) (ha : a.put N undef = a')
    (h : wpAnyH P md ops Q S fuel (listed.setIfInBounds i true) a' w) : wpAnyH P md ops Q S (fuel + 1) listed a w := by
  subst hN
  subst ha
  exact wpAnyH_take (at_dropN hl) hs hf hr hQ (.inr ⟨hw, rfl⟩) hS h
/-- The two schemas' blocks. -/
structure Sc_ (w W : World) (s0 s1 t0 t1 : Value) : Prop where
  b0 : W.heap[w.heap.size]? = some (.cells #[s0, s1] 24 (0, 0))
  b1 : W.heap[w.heap.size + 1]? = some (.cells #[t0, t1] 24 (0, 0))
  below : Below w.heap.size w W
theorem Sc_.next {w W W' : World} {s0 s1 t0 t1 : Value} (h : Sc_ w W s0 s1 t0 t1) (hb : Below W.heap.size W W') : Sc_ w W' s0 s1 t0 t1 := ⟨blk_below h.b0 hb, blk_below h.b1 hb, below_step h.below hb⟩
theorem Sc_.drew {w W : World} {s0 s1 t0 t1 : Value} (h : Sc_ w W s0 s1 t0 t1) : Sc_ w W.drew s0 s1 t0 t1 := ⟨h.b0, h.b1, h.below.drew⟩
theorem Sc_.start (w : World) (s0 s1 t0 t1 : Value) : Sc_ w ((w.alloc (.cells #[s0, s1] 24)).alloc (.cells #[t0, t1] 24)) s0 s1 t0 t1 := by
  have h1 := blk_new (w.alloc (.cells #[s0, s1] 24)) (.cells #[t0, t1] 24)
  rw [World.size_alloc] at h1
  exact ⟨blk_alloc (blk_new w _) _, h1, below_alloc (below_alloc (Below.refl _ _) _) _⟩
theorem Sc_.cells {w W : World} {s0 s1 t0 t1 : Value} (h : Sc_ w W s0 s1 t0 t1) : (W.cell? ⟨w.heap.size, 0, none⟩ = some s0 ∧ W.cell? ⟨w.heap.size, 1, none⟩ = some s1) ∧ W.cell? ⟨w.heap.size + 1, 0, none⟩ = some t0 ∧ W.cell? ⟨w.heap.size + 1, 1, none⟩ = some t1 :=
  ⟨⟨blk_cell h.b0 0, blk_cell h.b0 1⟩, blk_cell h.b1 0, blk_cell h.b1 1⟩
def marquetrylaw16_SchemaCheck.f (k : Nat) (a0_0 : ByteArray) (l0_1 : List S62) (a1_0 : ByteArray) (l1_1 : List S62) : Option Bool :=
  (marquetryref16_Count.f k l0_1).bind fun n0 => if n0 > 300 then some true else (marquetryref16_Count.f k l1_1).bind fun n1 => if n1 > 300 then some true else if (a0_0.size : Int) > 2000 then some true else
    (schema_Check.f a0_0 l0_1).bind fun e => (schema_Copy.f k a0_0 l0_1).bind fun c => (marquetryref16_Check.f k a0_0 l0_1).bind fun q => (schema_Same.f a0_0 l0_1 a1_0 l1_1).bind fun s1 => (marquetryref16_Same.f a0_0 l0_1 a1_0 l1_1).bind fun s2 =>
      (marquetryref16_Same.f c.1 c.2 a0_0 l0_1).bind fun s3 => if ((e = 0 ∧ q = true) ∨ (e = 2 ∧ q = false)) ∧ s1 = s2 ∧ s3 = true then some true else none
set_option maxHeartbeats 8000000 in
set_option maxRecDepth 100000 in
theorem marquetrylaw16_SchemaCheck.calls (k : Nat) (a0_0 : ByteArray) (A0_1 : Option Addr) (c0_1 : Nat) (l0_1 : List (S62)) (a1_0 : ByteArray) (A1_1 : Option Addr) (c1_1 : Nat) (l1_1 : List (S62)) (r : Bool) (w : World) (hr0_1 : Kd.C k62 w A0_1 l0_1.length l0_1) (hc0_1 : l0_1.length ≤ c0_1) (hr1_1 : Kd.C k62 w A1_1 l1_1.length l1_1) (hc1_1 : l1_1.length ≤ c1_1) (h : marquetrylaw16_SchemaCheck.f k a0_0 l0_1 a1_0 l1_1 = some r) (hT_ : Tabs_ w := by repeat (first | exact hT_ | exact Tabs_.below hT_ HB.out | exact Tabs_.below hT_ HB | with_reducible refine Tabs_.alloc ?_ _ | with_reducible refine Tabs_.drewN ?_ _ | with_reducible refine Tabs_.drew ?_)) :
    Calls Tryd.prog 3 #[.agg #[.string a0_0, .slice A0_1 l0_1.length c0_1], .agg #[.string a1_0, .slice A1_1 l1_1.length c1_1]] w fun e w' => e = .returned (.bool r) ∧ Below w.heap.size w w' := by
  unfold marquetrylaw16_SchemaCheck.f at h
  obtain ⟨n0, hn0, h1⟩ := Option.bind_eq_some_iff.mp h
  clear h
  have HN0 := Lib.hid hn0
  have HT := Lib.hid hT_
  clear hn0 hT_
  have hS := Sc_.start w (.string a0_0) (.slice A0_1 l0_1.length c0_1) (.string a1_0) (.slice A1_1 l1_1.length c1_1)
  go_enter Tryd.func3, Tryd.ntmps3
  go_wp2_with fail
  refine (marquetryref16_Count.calls k A0_1 c0_1 l0_1 n0 _ (Kd.C_below hr0_1 hS.below) hc0_1 HN0.out).mono ?_
  rintro e w1 ⟨rfl, hD1⟩
  have hS1 := hS.next hD1.below
  clear hD1 hS HN0
  obtain ⟨⟨s0, s1⟩, t0, t1⟩ := hS1.cells
  by_cases hb0 : n0 > 300
  · rw [if_pos hb0] at h1
    obtain rfl := Option.some.inj h1
    have hnb : decide (n0 > 300) = true := decide_eq_true hb0
    clear hb0
    go_wp2_with fail
    go_ret
    exact ⟨rfl, hS1.below⟩
  rw [if_neg hb0] at h1
  have hnb0 : decide (n0 > 300) = false := decide_eq_false hb0
  clear hb0
  obtain ⟨n1, hn1, h2⟩ := Option.bind_eq_some_iff.mp h1
  clear h1
  have HN1 := Lib.hid hn1
  clear hn1
  go_wp2_with fail
  refine (marquetryref16_Count.calls k A1_1 c1_1 l1_1 n1 _ (Kd.C_below hr1_1 hS1.below) hc1_1 HN1.out).mono ?_
  rintro e w2 ⟨rfl, hD2⟩
  have hS2 := hS1.next hD2.below
  clear hD2 hS1 HN1 s0 s1 t0 t1
  obtain ⟨⟨s0, s1⟩, t0, t1⟩ := hS2.cells
  by_cases hb1 : n1 > 300
  · rw [if_pos hb1] at h2
    obtain rfl := Option.some.inj h2
    have hnb1 : decide (n1 > 300) = true := decide_eq_true hb1
    clear hb1
    go_wp2_with fail
    go_ret
    exact ⟨rfl, hS2.below⟩
  rw [if_neg hb1] at h2
  have hnb1 : decide (n1 > 300) = false := decide_eq_false hb1
  clear hb1
  by_cases hb2 : (a0_0.size : Int) > 2000
  · rw [if_pos hb2] at h2
    obtain rfl := Option.some.inj h2
    have hnb2 : decide (2000 < (a0_0.size : Int)) = true := decide_eq_true hb2
    have hnb3 : decide (2000 < a0_0.size) = true := decide_eq_true (by omega)
    clear hb2
    go_wp2_with fail
    go_ret
    exact ⟨rfl, hS2.below⟩
  rw [if_neg hb2] at h2
  have hnb2 : decide (2000 < (a0_0.size : Int)) = false := decide_eq_false hb2
  have hnb3 : decide (2000 < a0_0.size) = false := decide_eq_false (by omega)
  clear hb2
  obtain ⟨e0, he, h5⟩ := Option.bind_eq_some_iff.mp h2
  obtain ⟨⟨p0, p1⟩, hc, h6⟩ := Option.bind_eq_some_iff.mp h5
  obtain ⟨q0, hq, h7⟩ := Option.bind_eq_some_iff.mp h6
  obtain ⟨s1', hs1, h8⟩ := Option.bind_eq_some_iff.mp h7
  obtain ⟨s2', hs2, h9⟩ := Option.bind_eq_some_iff.mp h8
  obtain ⟨s3', hs3, h10⟩ := Option.bind_eq_some_iff.mp h9
  clear h2 h5 h6 h7 h8 h9
  split at h10
  case isFalse => cases h10
  case isTrue hall =>
  obtain rfl := Option.some.inj h10
  obtain ⟨hor, rfl, rfl⟩ := hall
  have HE := Lib.hid he
  have HC := Lib.hid hc
  have HQ := Lib.hid hq
  have HS1 := Lib.hid hs1
  have HS2 := Lib.hid hs2
  have HS3 := Lib.hid hs3
  have HOR := Lib.hid hor
  clear h10 he hc hq hs1 hs2 hs3 hor
  go_wp2_with fail
  refine (schema_Check.calls a0_0 A0_1 c0_1 l0_1 e0 _ (Kd.C_below hr0_1 hS2.below) hc0_1 HE.out (HT.out.below hS2.below)).mono ?_
  rintro e w6 ⟨rfl, hB6⟩
  have hS6 := hS2.next hB6
  clear hB6 hS2 HE s0 s1 t0 t1 hnb0 hnb1 hnb2 hnb3
  obtain ⟨⟨s0, s1⟩, t0, t1⟩ := hS6.cells
  go_wp2_with fail
  refine (schema_Copy.calls k a0_0 A0_1 c0_1 l0_1 p0 p1 _ (Kd.C_below hr0_1 hS6.below) hc0_1 HC.out).mono ?_
  rintro e w7 ⟨v0, rfl, Q0, hB7⟩
  obtain ⟨D0, d0, rfl⟩ := Kd.R_slice Q0
  have hS7 := hS6.next hB7
  clear hB7 hS6 s0 s1 t0 t1 HC
  obtain ⟨⟨s0, s1⟩, t0, t1⟩ := hS7.cells
  go_wp2_with fail
  have k9 := blk_new w7 (.cells #[.string p0, .slice D0 p1.length d0] 24)
  have hb78 := below_alloc (Below.refl w7.heap.size w7) (.cells #[.string p0, .slice D0 p1.length d0] 24)
  generalize (w7.alloc (.cells #[.string p0, .slice D0 p1.length d0] 24)) = w8 at *
  obtain ⟨-, hd0, C0⟩ := Kd.R_reads' (Kd.R_below Q0 hb78)
  have hS10 := (hS7.next hb78).drew
  replace C0 := Kd.C_drew C0
  have k6_10 : w8.drew.heap[w7.heap.size]? = some (.cells #[.string p0, .slice D0 p1.length d0] 24 (0, 0)) := k9
  clear Q0 hb78 k9 hS7 s0 s1 t0 t1
  generalize hB9 : w7.heap.size = B6 at *
  refine wp_region_held_drew (S := (fun W => ((W.cell? ⟨w.heap.size, 0, none⟩ = some (.string a0_0) ∧ W.cell? ⟨w.heap.size, 1, none⟩ = some (.slice A0_1 l0_1.length c0_1)) ∧ W.cell? ⟨w.heap.size + 1, 0, none⟩ = some (.string a1_0) ∧ W.cell? ⟨w.heap.size + 1, 1, none⟩ = some (.slice A1_1 l1_1.length c1_1)) ∧ W.cell? ⟨B6, 0, none⟩ = some (.string p0) ∧ W.cell? ⟨B6, 1, none⟩ = some (.slice D0 p1.length d0))) (by kernel_rfl) ⟨hS10.cells, blk_cell k6_10 0, blk_cell k6_10 1⟩ (fun hHeld => ?_)
  generalize w8.drew = w10 at *
  clear hB9
  rcases HOR.out with ⟨rfl, rfl⟩ | ⟨rfl, rfl⟩
  case inl =>
    refine tkZ_ 0 (some 27) rfl rfl (v := ?a1) ?b1 ?c1
    case b1 => (intro W' hSw; (try dsimp only at hSw); go_simp; first | done | with_reducible rfl)
    simp only [Act.put, List.setIfInBounds_toArray, List.set_cons_zero, List.set_cons_succ]
    refine tkZ_ 1 (some 28) rfl rfl (v := ?a2) ?b2 ?c2
    case b2 => (intro W' hSw; (try dsimp only at hSw); go_simp; first | done | with_reducible rfl)
    simp only [Act.put, List.setIfInBounds_toArray, List.set_cons_zero, List.set_cons_succ]
    refine tkZ_ 2 (some 29) rfl rfl (v := ?a3) ?b3 ?c3
    case b3 => (intro W' hSw; (try dsimp only at hSw); go_simp; first | done | with_reducible rfl)
    simp only [Act.put, List.setIfInBounds_toArray, List.set_cons_zero, List.set_cons_succ]
    refine wpAnyH_ready (rs := [3]) (by kernel_rfl) (by simp) (AllReadyH.cons (at_dropN rfl) (fun KC hKC => ?_) AllReadyH.nil)
    go_simp
    refine (marquetryref16_Check.calls k a0_0 A0_1 c0_1 l0_1 _ _ (Kd.C_below hr0_1 hS10.below) hc0_1 HQ.out).mono ?_
    rintro e w11 ⟨rfl, hB11⟩
    have hS11 := hS10.next hB11
    have k6_11 := blk_below k6_10 hB11
    refine hKC.out _ _ ⟨hS11.cells, blk_cell k6_11 0, blk_cell k6_11 1⟩ (fun hHeld => ?_)
    clear hKC KC
    try simp only [Act.put, List.setIfInBounds_toArray, List.set_cons_zero, List.set_cons_succ]
    refine tkZ_ 4 (some 31) rfl rfl (v := ?a4) ?b4 ?c4
    case b4 => (intro W' hSw; (try dsimp only at hSw); go_simp; first | done | with_reducible rfl)
    simp only [Act.put, List.setIfInBounds_toArray, List.set_cons_zero, List.set_cons_succ]
    refine tkZ_ 5 (some 32) rfl rfl (v := ?a5) ?b5 ?c5
    case b5 => (intro W' hSw; (try dsimp only at hSw); go_simp; first | done | with_reducible rfl)
    simp only [Act.put, List.setIfInBounds_toArray, List.set_cons_zero, List.set_cons_succ]
    refine tkZ_ 6 (some 33) rfl rfl (v := ?a6) ?b6 ?c6
    case b6 => (intro W' hSw; (try dsimp only at hSw); go_simp; first | done | with_reducible rfl)
    simp only [Act.put, List.setIfInBounds_toArray, List.set_cons_zero, List.set_cons_succ]
    refine tkZ_ 7 (some 34) rfl rfl (v := ?a7) ?b7 ?c7
    case b7 => (intro W' hSw; (try dsimp only at hSw); go_simp; first | done | with_reducible rfl)
    simp only [Act.put, List.setIfInBounds_toArray, List.set_cons_zero, List.set_cons_succ]
    refine tkZ_ 8 (some 35) rfl rfl (v := ?a8) ?b8 ?c8
    case b8 => (intro W' hSw; (try dsimp only at hSw); go_simp; first | done | with_reducible rfl)
    simp only [Act.put, List.setIfInBounds_toArray, List.set_cons_zero, List.set_cons_succ]
    refine tkN_ 9 (some 36) rfl rfl (by kernel_rfl) (by kernel_rfl) (by kernel_rfl) (fun _ _ _ h => h) (by rfl) (by assumption) rfl ?tkr9_9
    simp only [Act.put, List.setIfInBounds_toArray, List.set_cons_zero, List.set_cons_succ]
    refine tkN_ 10 (some 37) rfl rfl (by kernel_rfl) (by kernel_rfl) (by kernel_rfl) (fun _ _ _ h => h) (by rfl) (by assumption) rfl ?tkr10_10
    simp only [Act.put, List.setIfInBounds_toArray, List.set_cons_zero, List.set_cons_succ]
    refine tkZ_ 11 (some 38) rfl rfl (v := ?a11) ?b11 ?c11
    case b11 => (intro W' hSw; (try dsimp only at hSw); go_simp; first | done | with_reducible rfl)
    simp only [Act.put, List.setIfInBounds_toArray, List.set_cons_zero, List.set_cons_succ]
    refine tkZ_ 12 (some 39) rfl rfl (v := ?a12) ?b12 ?c12
    case b12 => (intro W' hSw; (try dsimp only at hSw); go_simp; first | done | with_reducible rfl)
    simp only [Act.put, List.setIfInBounds_toArray, List.set_cons_zero, List.set_cons_succ]
    refine tkZ_ 13 (some 40) rfl rfl (v := ?a13) ?b13 ?c13
    case b13 => (intro W' hSw; (try dsimp only at hSw); go_simp; first | done | with_reducible rfl)
    simp only [Act.put, List.setIfInBounds_toArray, List.set_cons_zero, List.set_cons_succ]
    refine tkZ_ 14 (some 41) rfl rfl (v := ?a14) ?b14 ?c14
    case b14 => (intro W' hSw; (try dsimp only at hSw); go_simp; first | done | with_reducible rfl)
    simp only [Act.put, List.setIfInBounds_toArray, List.set_cons_zero, List.set_cons_succ]
    refine tkZ_ 15 (some 42) rfl rfl (v := ?a15) ?b15 ?c15
    case b15 => (intro W' hSw; (try dsimp only at hSw); go_simp; first | done | with_reducible rfl)
    simp only [Act.put, List.setIfInBounds_toArray, List.set_cons_zero, List.set_cons_succ]
    refine tkZ_ 17 (some 44) rfl rfl (v := ?a16) ?b16 ?c16
    case b16 => (intro W' hSw; (try dsimp only at hSw); go_simp; first | done | with_reducible rfl)
    simp only [Act.put, List.setIfInBounds_toArray, List.set_cons_zero, List.set_cons_succ]
    refine tkZ_ 18 (some 45) rfl rfl (v := ?a17) ?b17 ?c17
    case b17 => (intro W' hSw; (try dsimp only at hSw); go_simp; first | done | with_reducible rfl)
    simp only [Act.put, List.setIfInBounds_toArray, List.set_cons_zero, List.set_cons_succ]
    refine wpAnyH_ready (rs := [16]) (by kernel_rfl) (by simp) (AllReadyH.cons (at_dropN rfl) (fun KC hKC => ?_) AllReadyH.nil)
    go_simp
    refine (schema_Same.calls a0_0 A0_1 c0_1 l0_1 a1_0 A1_1 c1_1 l1_1 _ _ (Kd.C_below hr0_1 hS11.below) hc0_1 (Kd.C_below hr1_1 hS11.below) hc1_1 HS1.out).mono ?_
    rintro e w12 ⟨rfl, hB12⟩
    have hS12 := hS11.next hB12
    have k6_12 := blk_below k6_11 hB12
    refine hKC.out _ _ ⟨hS12.cells, blk_cell k6_12 0, blk_cell k6_12 1⟩ (fun hHeld => ?_)
    clear hKC KC
    try simp only [Act.put, List.setIfInBounds_toArray, List.set_cons_zero, List.set_cons_succ]
    refine wpAnyH_ready (rs := [19]) (by kernel_rfl) (by simp) (AllReadyH.cons (at_dropN rfl) (fun KC hKC => ?_) AllReadyH.nil)
    go_simp
    refine (marquetryref16_Same.calls a0_0 A0_1 c0_1 l0_1 a1_0 A1_1 c1_1 l1_1 _ _ (Kd.C_below hr0_1 hS12.below) hc0_1 (Kd.C_below hr1_1 hS12.below) hc1_1 HS2.out).mono ?_
    rintro e w13 ⟨rfl, hB13⟩
    have hS13 := hS12.next hB13
    have k6_13 := blk_below k6_12 hB13
    refine hKC.out _ _ ⟨hS13.cells, blk_cell k6_13 0, blk_cell k6_13 1⟩ (fun hHeld => ?_)
    clear hKC KC
    try simp only [Act.put, List.setIfInBounds_toArray, List.set_cons_zero, List.set_cons_succ]
    refine tkZ_ 20 (some 47) rfl rfl (v := ?a18) ?b18 ?c18
    case b18 => (intro W' hSw; (try dsimp only at hSw); go_simp; first | done | with_reducible rfl)
    simp only [Act.put, List.setIfInBounds_toArray, List.set_cons_zero, List.set_cons_succ]
    refine tkZ_ 21 (some 48) rfl rfl (v := ?a19) ?b19 ?c19
    case b19 => (intro W' hSw; (try dsimp only at hSw); go_simp; first | done | with_reducible rfl)
    simp only [Act.put, List.setIfInBounds_toArray, List.set_cons_zero, List.set_cons_succ]
    refine tkZ_ 22 (some 49) rfl rfl (v := ?a20) ?b20 ?c20
    case b20 => (intro W' hSw; (try dsimp only at hSw); go_simp; first | done | with_reducible rfl)
    simp only [Act.put, List.setIfInBounds_toArray, List.set_cons_zero, List.set_cons_succ]
    refine tkZ_ 23 (some 50) rfl rfl (v := ?a21) ?b21 ?c21
    case b21 => (intro W' hSw; (try dsimp only at hSw); go_simp; first | done | with_reducible rfl)
    simp only [Act.put, List.setIfInBounds_toArray, List.set_cons_zero, List.set_cons_succ]
    refine tkZ_ 24 (some 51) rfl rfl (v := ?a22) ?b22 ?c22
    case b22 => (intro W' hSw; (try dsimp only at hSw); go_simp; first | done | with_reducible rfl)
    simp only [Act.put, List.setIfInBounds_toArray, List.set_cons_zero, List.set_cons_succ]
    refine wpAnyH_ready (rs := [25]) (by kernel_rfl) (by simp) (AllReadyH.cons (at_dropN rfl) (fun KC hKC => ?_) AllReadyH.nil)
    go_simp
    refine (marquetryref16_Same.calls p0 D0 d0 p1 a0_0 A0_1 c0_1 l0_1 _ _ (Kd.C_below C0 (below_step (below_step hB11 hB12) hB13)) hd0 (Kd.C_below hr0_1 hS13.below) hc0_1 HS3.out).mono ?_
    rintro e w14 ⟨rfl, hB14⟩
    have hS14 := hS13.next hB14
    have k6_14 := blk_below k6_13 hB14
    refine hKC.out _ _ ⟨hS14.cells, blk_cell k6_14 0, blk_cell k6_14 1⟩ (fun hHeld => ?_)
    clear hKC KC
    try simp only [Act.put, List.setIfInBounds_toArray, List.set_cons_zero, List.set_cons_succ]
    refine tkZ_ 26 (some 53) rfl rfl (v := ?a23) ?b23 ?c23
    case b23 => (intro W' hSw; (try dsimp only at hSw); go_simp; first | done | with_reducible rfl)
    simp only [Act.put, List.setIfInBounds_toArray, List.set_cons_zero, List.set_cons_succ]
    refine tkZ_ 27 (some 4) rfl rfl (v := ?a24) ?b24 ?c24
    case b24 => (intro W' hSw; (try dsimp only at hSw); go_simp; first | done | with_reducible rfl)
    simp only [Act.put, List.setIfInBounds_toArray, List.set_cons_zero, List.set_cons_succ]
    refine wpAnyH_done (by kernel_rfl) ?_ _
    go_wp2_with fail
    go_ret
    exact ⟨rfl, hS14.below⟩
  case inr =>
    refine tkZ_ 0 (some 27) rfl rfl (v := ?a25) ?b25 ?c25
    case b25 => (intro W' hSw; (try dsimp only at hSw); go_simp; first | done | with_reducible rfl)
    simp only [Act.put, List.setIfInBounds_toArray, List.set_cons_zero, List.set_cons_succ]
    refine tkZ_ 1 (some 28) rfl rfl (v := ?a26) ?b26 ?c26
    case b26 => (intro W' hSw; (try dsimp only at hSw); go_simp; first | done | with_reducible rfl)
    simp only [Act.put, List.setIfInBounds_toArray, List.set_cons_zero, List.set_cons_succ]
    refine tkZ_ 2 (some 29) rfl rfl (v := ?a27) ?b27 ?c27
    case b27 => (intro W' hSw; (try dsimp only at hSw); go_simp; first | done | with_reducible rfl)
    simp only [Act.put, List.setIfInBounds_toArray, List.set_cons_zero, List.set_cons_succ]
    refine wpAnyH_ready (rs := [3]) (by kernel_rfl) (by simp) (AllReadyH.cons (at_dropN rfl) (fun KC hKC => ?_) AllReadyH.nil)
    go_simp
    refine (marquetryref16_Check.calls k a0_0 A0_1 c0_1 l0_1 _ _ (Kd.C_below hr0_1 hS10.below) hc0_1 HQ.out).mono ?_
    rintro e w11 ⟨rfl, hB11⟩
    have hS11 := hS10.next hB11
    have k6_11 := blk_below k6_10 hB11
    refine hKC.out _ _ ⟨hS11.cells, blk_cell k6_11 0, blk_cell k6_11 1⟩ (fun hHeld => ?_)
    clear hKC KC
    try simp only [Act.put, List.setIfInBounds_toArray, List.set_cons_zero, List.set_cons_succ]
    refine tkZ_ 4 (some 31) rfl rfl (v := ?a28) ?b28 ?c28
    case b28 => (intro W' hSw; (try dsimp only at hSw); go_simp; first | done | with_reducible rfl)
    simp only [Act.put, List.setIfInBounds_toArray, List.set_cons_zero, List.set_cons_succ]
    refine tkZ_ 5 (some 32) rfl rfl (v := ?a29) ?b29 ?c29
    case b29 => (intro W' hSw; (try dsimp only at hSw); go_simp; first | done | with_reducible rfl)
    simp only [Act.put, List.setIfInBounds_toArray, List.set_cons_zero, List.set_cons_succ]
    refine tkZ_ 6 (some 33) rfl rfl (v := ?a30) ?b30 ?c30
    case b30 => (intro W' hSw; (try dsimp only at hSw); go_simp; first | done | with_reducible rfl)
    simp only [Act.put, List.setIfInBounds_toArray, List.set_cons_zero, List.set_cons_succ]
    refine tkZ_ 7 (some 34) rfl rfl (v := ?a31) ?b31 ?c31
    case b31 => (intro W' hSw; (try dsimp only at hSw); go_simp; first | done | with_reducible rfl)
    simp only [Act.put, List.setIfInBounds_toArray, List.set_cons_zero, List.set_cons_succ]
    refine tkZ_ 8 (some 35) rfl rfl (v := ?a32) ?b32 ?c32
    case b32 => (intro W' hSw; (try dsimp only at hSw); go_simp; first | done | with_reducible rfl)
    simp only [Act.put, List.setIfInBounds_toArray, List.set_cons_zero, List.set_cons_succ]
    refine tkZ_ 9 (some 36) rfl rfl (v := ?a33) ?b33 ?c33
    case b33 => (intro W' hSw; (try dsimp only at hSw); go_simp; first | done | with_reducible rfl)
    simp only [Act.put, List.setIfInBounds_toArray, List.set_cons_zero, List.set_cons_succ]
    refine tkZ_ 10 (some 37) rfl rfl (v := ?a34) ?b34 ?c34
    case b34 => (intro W' hSw; (try dsimp only at hSw); go_simp; first | done | with_reducible rfl)
    simp only [Act.put, List.setIfInBounds_toArray, List.set_cons_zero, List.set_cons_succ]
    refine tkZ_ 11 (some 38) rfl rfl (v := ?a35) ?b35 ?c35
    case b35 => (intro W' hSw; (try dsimp only at hSw); go_simp; first | done | with_reducible rfl)
    simp only [Act.put, List.setIfInBounds_toArray, List.set_cons_zero, List.set_cons_succ]
    refine tkZ_ 12 (some 39) rfl rfl (v := ?a36) ?b36 ?c36
    case b36 => (intro W' hSw; (try dsimp only at hSw); go_simp; first | done | with_reducible rfl)
    simp only [Act.put, List.setIfInBounds_toArray, List.set_cons_zero, List.set_cons_succ]
    refine tkZ_ 13 (some 40) rfl rfl (v := ?a37) ?b37 ?c37
    case b37 => (intro W' hSw; (try dsimp only at hSw); go_simp; first | done | with_reducible rfl)
    simp only [Act.put, List.setIfInBounds_toArray, List.set_cons_zero, List.set_cons_succ]
    refine tkZ_ 14 (some 41) rfl rfl (v := ?a38) ?b38 ?c38
    case b38 => (intro W' hSw; (try dsimp only at hSw); go_simp; first | done | with_reducible rfl)
    simp only [Act.put, List.setIfInBounds_toArray, List.set_cons_zero, List.set_cons_succ]
    refine tkZ_ 15 (some 42) rfl rfl (v := ?a39) ?b39 ?c39
    case b39 => (intro W' hSw; (try dsimp only at hSw); go_simp; first | done | with_reducible rfl)
    simp only [Act.put, List.setIfInBounds_toArray, List.set_cons_zero, List.set_cons_succ]
    refine tkZ_ 17 (some 44) rfl rfl (v := ?a40) ?b40 ?c40
    case b40 => (intro W' hSw; (try dsimp only at hSw); go_simp; first | done | with_reducible rfl)
    simp only [Act.put, List.setIfInBounds_toArray, List.set_cons_zero, List.set_cons_succ]
    refine tkZ_ 18 (some 45) rfl rfl (v := ?a41) ?b41 ?c41
    case b41 => (intro W' hSw; (try dsimp only at hSw); go_simp; first | done | with_reducible rfl)
    simp only [Act.put, List.setIfInBounds_toArray, List.set_cons_zero, List.set_cons_succ]
    refine wpAnyH_ready (rs := [16]) (by kernel_rfl) (by simp) (AllReadyH.cons (at_dropN rfl) (fun KC hKC => ?_) AllReadyH.nil)
    go_simp
    refine (schema_Same.calls a0_0 A0_1 c0_1 l0_1 a1_0 A1_1 c1_1 l1_1 _ _ (Kd.C_below hr0_1 hS11.below) hc0_1 (Kd.C_below hr1_1 hS11.below) hc1_1 HS1.out).mono ?_
    rintro e w12 ⟨rfl, hB12⟩
    have hS12 := hS11.next hB12
    have k6_12 := blk_below k6_11 hB12
    refine hKC.out _ _ ⟨hS12.cells, blk_cell k6_12 0, blk_cell k6_12 1⟩ (fun hHeld => ?_)
    clear hKC KC
    try simp only [Act.put, List.setIfInBounds_toArray, List.set_cons_zero, List.set_cons_succ]
    refine wpAnyH_ready (rs := [19]) (by kernel_rfl) (by simp) (AllReadyH.cons (at_dropN rfl) (fun KC hKC => ?_) AllReadyH.nil)
    go_simp
    refine (marquetryref16_Same.calls a0_0 A0_1 c0_1 l0_1 a1_0 A1_1 c1_1 l1_1 _ _ (Kd.C_below hr0_1 hS12.below) hc0_1 (Kd.C_below hr1_1 hS12.below) hc1_1 HS2.out).mono ?_
    rintro e w13 ⟨rfl, hB13⟩
    have hS13 := hS12.next hB13
    have k6_13 := blk_below k6_12 hB13
    refine hKC.out _ _ ⟨hS13.cells, blk_cell k6_13 0, blk_cell k6_13 1⟩ (fun hHeld => ?_)
    clear hKC KC
    try simp only [Act.put, List.setIfInBounds_toArray, List.set_cons_zero, List.set_cons_succ]
    refine tkZ_ 20 (some 47) rfl rfl (v := ?a42) ?b42 ?c42
    case b42 => (intro W' hSw; (try dsimp only at hSw); go_simp; first | done | with_reducible rfl)
    simp only [Act.put, List.setIfInBounds_toArray, List.set_cons_zero, List.set_cons_succ]
    refine tkZ_ 21 (some 48) rfl rfl (v := ?a43) ?b43 ?c43
    case b43 => (intro W' hSw; (try dsimp only at hSw); go_simp; first | done | with_reducible rfl)
    simp only [Act.put, List.setIfInBounds_toArray, List.set_cons_zero, List.set_cons_succ]
    refine tkZ_ 22 (some 49) rfl rfl (v := ?a44) ?b44 ?c44
    case b44 => (intro W' hSw; (try dsimp only at hSw); go_simp; first | done | with_reducible rfl)
    simp only [Act.put, List.setIfInBounds_toArray, List.set_cons_zero, List.set_cons_succ]
    refine tkZ_ 23 (some 50) rfl rfl (v := ?a45) ?b45 ?c45
    case b45 => (intro W' hSw; (try dsimp only at hSw); go_simp; first | done | with_reducible rfl)
    simp only [Act.put, List.setIfInBounds_toArray, List.set_cons_zero, List.set_cons_succ]
    refine tkZ_ 24 (some 51) rfl rfl (v := ?a46) ?b46 ?c46
    case b46 => (intro W' hSw; (try dsimp only at hSw); go_simp; first | done | with_reducible rfl)
    simp only [Act.put, List.setIfInBounds_toArray, List.set_cons_zero, List.set_cons_succ]
    refine wpAnyH_ready (rs := [25]) (by kernel_rfl) (by simp) (AllReadyH.cons (at_dropN rfl) (fun KC hKC => ?_) AllReadyH.nil)
    go_simp
    refine (marquetryref16_Same.calls p0 D0 d0 p1 a0_0 A0_1 c0_1 l0_1 _ _ (Kd.C_below C0 (below_step (below_step hB11 hB12) hB13)) hd0 (Kd.C_below hr0_1 hS13.below) hc0_1 HS3.out).mono ?_
    rintro e w14 ⟨rfl, hB14⟩
    have hS14 := hS13.next hB14
    have k6_14 := blk_below k6_13 hB14
    refine hKC.out _ _ ⟨hS14.cells, blk_cell k6_14 0, blk_cell k6_14 1⟩ (fun hHeld => ?_)
    clear hKC KC
    try simp only [Act.put, List.setIfInBounds_toArray, List.set_cons_zero, List.set_cons_succ]
    refine tkZ_ 26 (some 53) rfl rfl (v := ?a47) ?b47 ?c47
    case b47 => (intro W' hSw; (try dsimp only at hSw); go_simp; first | done | with_reducible rfl)
    simp only [Act.put, List.setIfInBounds_toArray, List.set_cons_zero, List.set_cons_succ]
    refine tkZ_ 27 (some 4) rfl rfl (v := ?a48) ?b48 ?c48
    case b48 => (intro W' hSw; (try dsimp only at hSw); go_simp; first | done | with_reducible rfl)
    simp only [Act.put, List.setIfInBounds_toArray, List.set_cons_zero, List.set_cons_succ]
    refine wpAnyH_done (by kernel_rfl) ?_ _
    go_wp2_with fail
    go_ret
    exact ⟨rfl, hS14.below⟩


end Go.Proofs.YtjdjlccdidfgoaaDoor.H
end
