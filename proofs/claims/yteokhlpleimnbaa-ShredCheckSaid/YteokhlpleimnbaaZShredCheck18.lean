/- Texts of the claim, packed: H47. -/
import Derived.BigRegion
import Derived.Deep.Cut
import Derived.Deep.RegionHeld3
import Derived.Deep.RegionWith
import Derived.Lib.Hide
import Derived.Test.YteokhlpleimnbaaZShredCheck5
import Derived.Test.YteokhlpleimnbaaZShredCheck6
import Derived.Test.YteokhlpleimnbaaZShredCheck10
import Derived.Test.YteokhlpleimnbaaZShredCheck11
import Derived.Test.YteokhlpleimnbaaZShredCheck13
import Derived.Test.YteokhlpleimnbaaZShredCheck14
import Derived.Test.YteokhlpleimnbaaZShredCheck16
import Derived.Test.YteokhlpleimnbaaZShredCheck17
section
-- Laid by this session's hprint.py, out of the kit's print.py and texts of the session. Not trusted: Lean checks it.
namespace Go.Proofs.Yteokhlpleimnbaa.H
open Go.RowKit Go.Proofs.YteokhlpleimnbaaW.PrintWords Go.Proofs.YteokhlpleimnbaaW.PrintLast Go.Proofs.YteokhlpleimnbaaW.PrintMore
attribute [local go_sem] max2_int min2_int max_two min_two max_three min_three max_four min_four   -- for this text's walks alone
set_option linter.unusedVariables false
set_option linter.unusedSimpArgs false

-- OVPART Derived.Lib.Hide Derived.Deep.RegionHeld3 Derived.BigRegion Derived.Deep.RegionWith Derived.Deep.Cut
/-! ### marquetrylaw18_ShredCheck: function 4 -/
/-- The schema's block and the columns'. -/
structure Lw_ (w W : World) (s0 s1 y0 y1 y2 y3 y4 y5 y6 y7 : Value) : Prop where
  b0 : W.heap[w.heap.size]? = some (.cells #[s0, s1] 24 (0, 0))
  b1 : W.heap[w.heap.size + 1]? = some (.cells #[y0, y1, y2, y3, y4, y5, y6, y7] 30 (0, 0))
  below : Below w.heap.size w W
theorem Lw_.next {w W : World} {s0 s1 y0 y1 y2 y3 y4 y5 y6 y7 : Value} {W' : World} (h : Lw_ w W s0 s1 y0 y1 y2 y3 y4 y5 y6 y7) (hb : Below W.heap.size W W') : Lw_ w W' s0 s1 y0 y1 y2 y3 y4 y5 y6 y7 := ⟨blk_below h.b0 hb, blk_below h.b1 hb, below_step h.below hb⟩
theorem Lw_.drew {w W : World} {s0 s1 y0 y1 y2 y3 y4 y5 y6 y7 : Value} (h : Lw_ w W s0 s1 y0 y1 y2 y3 y4 y5 y6 y7) : Lw_ w W.drew s0 s1 y0 y1 y2 y3 y4 y5 y6 y7 := ⟨h.b0, h.b1, h.below.drew⟩
theorem Lw_.start (w : World) (s0 s1 y0 y1 y2 y3 y4 y5 y6 y7 : Value) : Lw_ w ((w.alloc (.cells #[s0, s1] 24)).alloc (.cells #[y0, y1, y2, y3, y4, y5, y6, y7] 30)) s0 s1 y0 y1 y2 y3 y4 y5 y6 y7 := by
  have h1 := blk_new (w.alloc (.cells #[s0, s1] 24)) (.cells #[y0, y1, y2, y3, y4, y5, y6, y7] 30)
  rw [World.size_alloc] at h1
  exact ⟨blk_alloc (blk_new w _) _, h1, below_alloc (below_alloc (Below.refl _ _) _) _⟩
theorem Lw_.cells {w W : World} {s0 s1 y0 y1 y2 y3 y4 y5 y6 y7 : Value} (h : Lw_ w W s0 s1 y0 y1 y2 y3 y4 y5 y6 y7) : (W.cell? ⟨w.heap.size, 0, none⟩ = some s0 ∧ W.cell? ⟨w.heap.size, 1, none⟩ = some s1) ∧ (W.cell? ⟨w.heap.size + 1, 0, none⟩ = some y0 ∧ W.cell? ⟨w.heap.size + 1, 1, none⟩ = some y1 ∧ W.cell? ⟨w.heap.size + 1, 2, none⟩ = some y2) ∧ (W.cell? ⟨w.heap.size + 1, 3, none⟩ = some y3 ∧ W.cell? ⟨w.heap.size + 1, 4, none⟩ = some y4 ∧ W.cell? ⟨w.heap.size + 1, 5, none⟩ = some y5) ∧ (W.cell? ⟨w.heap.size + 1, 6, none⟩ = some y6 ∧ W.cell? ⟨w.heap.size + 1, 7, none⟩ = some y7) :=
  ⟨⟨blk_cell h.b0 0, blk_cell h.b0 1⟩, ⟨blk_cell h.b1 0, blk_cell h.b1 1, blk_cell h.b1 2⟩, ⟨blk_cell h.b1 3, blk_cell h.b1 4, blk_cell h.b1 5⟩, blk_cell h.b1 6, blk_cell h.b1 7⟩
/-- A leaf in a row. -/
structure LfAt_ (W : World) (ad : Addr) (x : S44) (A0 : Option Addr) (c0 : Nat) (A1 : Option Addr) (c1 : Nat) : Prop where
  e0 : W.cell? ad = some (.slice A0 x.f0.length c0)
  e1 : W.cell? ⟨ad.block, ad.off + 1, none⟩ = some (.slice A1 x.f1.length c1)
  e2 : W.cell? ⟨ad.block, ad.off + 2, none⟩ = some (.int .i64 x.f2)
  e3 : W.cell? ⟨ad.block, ad.off + 3, none⟩ = some (.int .i64 x.f3)
  e4 : W.cell? ⟨ad.block, ad.off + 4, none⟩ = some (.int .i64 x.f4.f0)
  e5 : W.cell? ⟨ad.block, ad.off + 5, none⟩ = some (.int .i64 x.f4.f1)
  h0 : x.f0.length ≤ c0
  g0 : Kd.C Kd.string W A0 x.f0.length x.f0
  h1 : x.f1.length ≤ c1
  g1 : Kd.C (Kd.int .i64) W A1 x.f1.length x.f1
theorem LfAt_.next {W W' : World} {ad : Addr} {x : S44} {A0 : Option Addr} {c0 : Nat} {A1 : Option Addr} {c1 : Nat} (h : LfAt_ W ad x A0 c0 A1 c1) (hb : Below W.heap.size W W') : LfAt_ W' ad x A0 c0 A1 c1 :=
  ⟨pw_cell_below hb h.e0, pw_cell_below hb h.e1, pw_cell_below hb h.e2, pw_cell_below hb h.e3, pw_cell_below hb h.e4, pw_cell_below hb h.e5, h.h0, Kd.C_below h.g0 hb, h.h1, Kd.C_below h.g1 hb⟩
theorem LfAt_.drew {W : World} {ad : Addr} {x : S44} {A0 : Option Addr} {c0 : Nat} {A1 : Option Addr} {c1 : Nat} (h : LfAt_ W ad x A0 c0 A1 c1) : LfAt_ W.drew ad x A0 c0 A1 c1 := h.next (below_drew (Below.refl _ _))
theorem lf_at {W : World} {A : Option Addr} {L : List S44} (h : Kd.C k44 W A L.length L) (i : Nat) (hi : i < L.length) : ∃ ad A0 c0 A1 c1, A = some ad ∧ LfAt_ W (ad.add (i * 6)) (rd_T44 L (i : Int)) A0 c0 A1 c1 := by
  obtain ⟨ad, A0, c0, A1, c1, e, q0, q1, q2, q3, q4, q5, h0, g0, h1, g1⟩ := at_T44 h (i : Int) (by omega) (by omega)
  rw [Int.toNat_natCast] at q0 q1 q2 q3 q4 q5
  exact ⟨ad, A0, c0, A1, c1, e, ⟨q0, q1, q2, q3, q4, q5, h0, g0, h1, g1⟩⟩
def marquetrylaw18_ShredCheck.g (k : Nat) (x : S44) (l2_0 l2_1 : List Int) (l2_2 : List S58) (l2_3 l2_4 : List Int) (l2_5 : List S58) (a2_6 a2_7 : Int) : Option Bool :=
  (shred_Check.f x.f0 x.f1 x.f2 x.f3 x.f4.f0 x.f4.f1 l2_0 l2_1 l2_2).bind fun e => (shred_Copy.f l2_0 l2_1 l2_2).bind fun c => (marquetryref17_Right.f k x.f0 x.f1 x.f2 x.f3 x.f4.f0 x.f4.f1 l2_0 l2_1 l2_2).bind fun r =>
    (shred_Rows.f l2_0 l2_1 l2_2).bind fun n1 => (marquetryref17_Rows.f k l2_0 l2_1 l2_2).bind fun n2 => (shred_Same.f l2_0 l2_1 l2_2 l2_3 l2_4 l2_5).bind fun s1 => (marquetryref17_SameColumn.f k l2_0 l2_1 l2_2 l2_3 l2_4 l2_5).bind fun s2 =>
      (marquetryref17_SameColumn.f k c.1 c.2.1 c.2.2 l2_0 l2_1 l2_2).bind fun s3 => if ((e = 0 ∧ r = true) ∨ (e = 280 ∧ r = false)) ∧ n1 = n2 ∧ s1 = s2 ∧ s3 = true then some true else none
def marquetrylaw18_ShredCheck.f (k : Nat) (a0_0 : ByteArray) (l0_1 : List S56) (a1 : Int) (l2_0 l2_1 : List Int) (l2_2 : List S58) (l2_3 l2_4 : List Int) (l2_5 : List S58) (a2_6 a2_7 : Int) : Option Bool :=
  (marquetryref16_Leaves.f k a0_0 l0_1).bind fun L => (marquetryref16_Count.f k l0_1).bind fun n => if n > 40 then some true else
    (marquetrylaw18_vast.f k l2_0 l2_1 l2_2).bind fun va => if va = true then some true else (marquetrylaw18_vast.f k l2_3 l2_4 l2_5).bind fun vb => if vb = true then some true else (if a1 < 0 then some true else if a1 ≥ (L.length : Int) then some true else marquetrylaw18_ShredCheck.g k (rd_T44 L a1) l2_0 l2_1 l2_2 l2_3 l2_4 l2_5 a2_6 a2_7)
set_option maxHeartbeats 8000000 in
set_option maxRecDepth 100000 in
theorem marquetrylaw18_ShredCheck.calls (k : Nat) (a0_0 : ByteArray) (A0_1 : Option Addr) (c0_1 : Nat) (l0_1 : List (S56)) (a1 : Int) (A2_0 : Option Addr) (c2_0 : Nat) (l2_0 : List Int) (A2_1 : Option Addr) (c2_1 : Nat) (l2_1 : List Int) (A2_2 : Option Addr) (c2_2 : Nat) (l2_2 : List (S58)) (A2_3 : Option Addr) (c2_3 : Nat) (l2_3 : List Int) (A2_4 : Option Addr) (c2_4 : Nat) (l2_4 : List Int) (A2_5 : Option Addr) (c2_5 : Nat) (l2_5 : List (S58)) (a2_6 : Int) (a2_7 : Int) (r : Bool) (w : World) (hr0_1 : Kd.C k56 w A0_1 l0_1.length l0_1) (hc0_1 : l0_1.length ≤ c0_1) (hr2_0 : Kd.C (Kd.int .i64) w A2_0 l2_0.length l2_0) (hc2_0 : l2_0.length ≤ c2_0) (hr2_1 : Kd.C (Kd.int .i64) w A2_1 l2_1.length l2_1) (hc2_1 : l2_1.length ≤ c2_1) (hr2_2 : Kd.C k58 w A2_2 l2_2.length l2_2) (hc2_2 : l2_2.length ≤ c2_2) (hr2_3 : Kd.C (Kd.int .i64) w A2_3 l2_3.length l2_3) (hc2_3 : l2_3.length ≤ c2_3) (hr2_4 : Kd.C (Kd.int .i64) w A2_4 l2_4.length l2_4) (hc2_4 : l2_4.length ≤ c2_4) (hr2_5 : Kd.C k58 w A2_5 l2_5.length l2_5) (hc2_5 : l2_5.length ≤ c2_5) (h : marquetrylaw18_ShredCheck.f k a0_0 l0_1 a1 l2_0 l2_1 l2_2 l2_3 l2_4 l2_5 a2_6 a2_7 = some r) :
    Calls Try.prog 4 #[.agg #[.string a0_0, .slice A0_1 l0_1.length c0_1], .int .i64 a1, .agg #[.slice A2_0 l2_0.length c2_0, .slice A2_1 l2_1.length c2_1, .slice A2_2 l2_2.length c2_2, .slice A2_3 l2_3.length c2_3, .slice A2_4 l2_4.length c2_4, .slice A2_5 l2_5.length c2_5, .int .i64 a2_6, .int .i64 a2_7]] w fun e w' => e = .returned (.bool r) ∧ Below w.heap.size w w' := by
  unfold marquetrylaw18_ShredCheck.f at h
  obtain ⟨L, hL, h1⟩ := Option.bind_eq_some_iff.mp h
  obtain ⟨n, hn, h2⟩ := Option.bind_eq_some_iff.mp h1
  clear h h1
  have HL := Lib.hid hL
  have HN := Lib.hid hn
  clear hL hn
  have hS := Lw_.start w (.string a0_0) (.slice A0_1 l0_1.length c0_1) (.slice A2_0 l2_0.length c2_0) (.slice A2_1 l2_1.length c2_1) (.slice A2_2 l2_2.length c2_2) (.slice A2_3 l2_3.length c2_3) (.slice A2_4 l2_4.length c2_4) (.slice A2_5 l2_5.length c2_5) (.int .i64 a2_6) (.int .i64 a2_7)
  go_enter Try.func4, Try.ntmps4
  go_wp2_with fail
  refine (marquetryref16_Leaves.calls k a0_0 A0_1 c0_1 l0_1 L _ (Kd.C_below hr0_1 hS.below) hc0_1 HL.out).mono ?_
  rintro e w1 ⟨v7, rfl, N7, hB1⟩
  have hS1 := hS.next hB1
  obtain ⟨A7, c7, rfl, hc7, C7⟩ := Kd.N_reads N7
  clear hB1 hS N7 HL
  obtain ⟨⟨s0, s1⟩, ⟨y0, y1, y2⟩, ⟨y3, y4, y5⟩, y6, y7⟩ := hS1.cells
  go_wp2_with fail
  refine (marquetryref16_Count.calls k A0_1 c0_1 l0_1 n _ (Kd.C_below hr0_1 hS1.below) hc0_1 HN.out).mono ?_
  rintro e w2 ⟨rfl, hD2⟩
  have hS2 := hS1.next hD2.below
  replace C7 := Kd.C_below C7 hD2.below
  clear hD2 hS1 HN s0 s1 y0 y1 y2 y3 y4 y5 y6 y7
  obtain ⟨⟨s0, s1⟩, ⟨y0, y1, y2⟩, ⟨y3, y4, y5⟩, y6, y7⟩ := hS2.cells
  by_cases hbig : n > 40
  · rw [if_pos hbig] at h2
    obtain rfl := Option.some.inj h2
    have hnb : decide (n > 40) = true := decide_eq_true hbig
    clear hbig
    go_wp2_with fail
    go_ret
    exact ⟨rfl, hS2.below⟩
  rw [if_neg hbig] at h2
  have hnb : decide (n > 40) = false := decide_eq_false hbig
  clear hbig
  obtain ⟨va, hva, h3⟩ := Option.bind_eq_some_iff.mp h2
  clear h2
  have HVA := Lib.hid hva
  clear hva
  go_wp2_with fail
  refine (marquetrylaw18_vast.calls k A2_0 c2_0 l2_0 A2_1 c2_1 l2_1 A2_2 c2_2 l2_2 va _ (Kd.C_below hr2_0 hS2.below) hc2_0 (Kd.C_below hr2_1 hS2.below) hc2_1 (Kd.C_below hr2_2 hS2.below) hc2_2 HVA.out).mono ?_
  rintro e w3 ⟨rfl, hB3⟩
  have hS3 := hS2.next hB3
  replace C7 := Kd.C_below C7 hB3
  clear hB3 hS2 HVA s0 s1 y0 y1 y2 y3 y4 y5 y6 y7 hnb
  obtain ⟨⟨s0, s1⟩, ⟨y0, y1, y2⟩, ⟨y3, y4, y5⟩, y6, y7⟩ := hS3.cells
  by_cases hvb : va = true
  · rw [if_pos hvb] at h3
    subst hvb
    obtain rfl := Option.some.inj h3
    go_wp2_with fail
    go_ret
    exact ⟨rfl, hS3.below⟩
  rw [if_neg hvb] at h3
  obtain rfl : va = false := by simpa using hvb
  clear hvb
  obtain ⟨vb, hvb, h4⟩ := Option.bind_eq_some_iff.mp h3
  clear h3
  have HVB := Lib.hid hvb
  clear hvb
  go_wp2_with fail
  refine (marquetrylaw18_vast.calls k A2_3 c2_3 l2_3 A2_4 c2_4 l2_4 A2_5 c2_5 l2_5 vb _ (Kd.C_below hr2_3 hS3.below) hc2_3 (Kd.C_below hr2_4 hS3.below) hc2_4 (Kd.C_below hr2_5 hS3.below) hc2_5 HVB.out).mono ?_
  rintro e w4 ⟨rfl, hB4⟩
  have hS4 := hS3.next hB4
  replace C7 := Kd.C_below C7 hB4
  clear hB4 hS3 HVB s0 s1 y0 y1 y2 y3 y4 y5 y6 y7
  obtain ⟨⟨s0, s1⟩, ⟨y0, y1, y2⟩, ⟨y3, y4, y5⟩, y6, y7⟩ := hS4.cells
  by_cases hvb : vb = true
  · rw [if_pos hvb] at h4
    subst hvb
    obtain rfl := Option.some.inj h4
    go_wp2_with fail
    go_ret
    exact ⟨rfl, hS4.below⟩
  rw [if_neg hvb] at h4
  obtain rfl : vb = false := by simpa using hvb
  clear hvb
  by_cases k0 : a1 < 0
  · rw [if_pos k0] at h4
    obtain rfl := Option.some.inj h4
    have k0b : decide (a1 < 0) = true := decide_eq_true k0
    clear k0
    go_wp2_with fail
    go_ret
    exact ⟨rfl, hS4.below⟩
  rw [if_neg k0] at h4
  have k0b : decide (a1 < 0) = false := decide_eq_false k0
  by_cases k1 : a1 ≥ (L.length : Int)
  · rw [if_pos k1] at h4
    obtain rfl := Option.some.inj h4
    have k1b : decide (a1 ≥ (L.length : Int)) = true := decide_eq_true k1
    clear k0 k1
    go_wp2_with fail
    go_ret
    exact ⟨rfl, hS4.below⟩
  rw [if_neg k1] at h4
  have k1b : decide (a1 ≥ (L.length : Int)) = false := decide_eq_false k1
  obtain ⟨j, rfl⟩ := Int.eq_ofNat_of_zero_le (show 0 ≤ a1 by omega)
  have hj : j < L.length := by omega
  have k1c : decide (L.length ≤ j) = false := decide_eq_false (by omega)
  clear k0 k1
  have hrd := rd_T44 L (j : Int)
  obtain ⟨x, hx⟩ : ∃ x, x = rd_T44 L (j : Int) := ⟨_, rfl⟩
  clear hrd
  rw [← hx] at h4
  unfold marquetrylaw18_ShredCheck.g at h4
  obtain ⟨e0, he, h5⟩ := Option.bind_eq_some_iff.mp h4
  obtain ⟨⟨p0, p1, p2⟩, hc, h6⟩ := Option.bind_eq_some_iff.mp h5
  obtain ⟨rb, hr, h7⟩ := Option.bind_eq_some_iff.mp h6
  obtain ⟨n1, hn1, h8⟩ := Option.bind_eq_some_iff.mp h7
  obtain ⟨n2, hn2, h9⟩ := Option.bind_eq_some_iff.mp h8
  obtain ⟨s1', hs1, h10⟩ := Option.bind_eq_some_iff.mp h9
  obtain ⟨s2', hs2, h11⟩ := Option.bind_eq_some_iff.mp h10
  obtain ⟨s3', hs3, h12⟩ := Option.bind_eq_some_iff.mp h11
  clear h4 h5 h6 h7 h8 h9 h10 h11
  split at h12
  case isFalse => cases h12
  case isTrue hall =>
  obtain rfl := Option.some.inj h12
  obtain ⟨hor, rfl, rfl, rfl⟩ := hall
  have HE := Lib.hid he
  have HC := Lib.hid hc
  have HR := Lib.hid hr
  have HN1 := Lib.hid hn1
  have HN2 := Lib.hid hn2
  have HS1 := Lib.hid hs1
  have HS2 := Lib.hid hs2
  have HS3 := Lib.hid hs3
  have HX := Lib.hid hx
  clear h12 he hc hr hn1 hn2 hs1 hs2 hs3 hx
  go_wp2_with fail
  obtain ⟨ad7, P0, q0, P1, q1, e7, hF⟩ := lf_at C7 j hj
  rw [← HX.out] at hF
  cases e7
  have hFd := hF.drew
  have hSd := hS4.drew
  refine wp_region_held_drew (S := (fun W => ((W.cell? ⟨w.heap.size + 1, 0, none⟩ = some (.slice A2_0 l2_0.length c2_0) ∧ W.cell? ⟨w.heap.size + 1, 1, none⟩ = some (.slice A2_1 l2_1.length c2_1) ∧ W.cell? ⟨w.heap.size + 1, 2, none⟩ = some (.slice A2_2 l2_2.length c2_2)) ∧ (W.cell? ⟨w.heap.size + 1, 3, none⟩ = some (.slice A2_3 l2_3.length c2_3) ∧ W.cell? ⟨w.heap.size + 1, 4, none⟩ = some (.slice A2_4 l2_4.length c2_4) ∧ W.cell? ⟨w.heap.size + 1, 5, none⟩ = some (.slice A2_5 l2_5.length c2_5))) ∧ (W.cell? (ad7.add (j * 6)) = some (.slice P0 x.f0.length q0) ∧ W.cell? ⟨(ad7.add (j * 6)).block, (ad7.add (j * 6)).off + 1, none⟩ = some (.slice P1 x.f1.length q1) ∧ W.cell? ⟨(ad7.add (j * 6)).block, (ad7.add (j * 6)).off + 2, none⟩ = some (.int .i64 x.f2) ∧ W.cell? ⟨(ad7.add (j * 6)).block, (ad7.add (j * 6)).off + 3, none⟩ = some (.int .i64 x.f3) ∧ W.cell? ⟨(ad7.add (j * 6)).block, (ad7.add (j * 6)).off + 4, none⟩ = some (.int .i64 x.f4.f0) ∧ W.cell? ⟨(ad7.add (j * 6)).block, (ad7.add (j * 6)).off + 5, none⟩ = some (.int .i64 x.f4.f1)))) (by kernel_rfl) ⟨⟨hSd.cells.2.1, hSd.cells.2.2.1⟩, hFd.e0, hFd.e1, hFd.e2, hFd.e3, hFd.e4, hFd.e5⟩ (fun hHeld => ?_)
  have hCd := Kd.C_drew C7
  generalize w4.drew = w5 at *
  refine tkY 0 (some 36) rfl rfl (by kernel_rfl) (by kernel_rfl) (by kernel_rfl) (fun _ _ _ h => h) (by rfl) (v := ?tkvt1_0) ?tkyt1_0 (by assumption) rfl ?tkrt1_0
  case tkyt1_0 =>
    intro W' hSw
    try dsimp only at hSw
    go_simp
    first | done | with_reducible rfl
  simp only [Act.put, List.setIfInBounds_toArray, List.set_cons_zero, List.set_cons_succ]
  refine tkY 1 (some 37) rfl rfl (by kernel_rfl) (by kernel_rfl) (by kernel_rfl) (fun _ _ _ h => h) (by rfl) (v := ?tkvt2_1) ?tkyt2_1 (by assumption) rfl ?tkrt2_1
  case tkyt2_1 =>
    intro W' hSw
    try dsimp only at hSw
    go_simp
    first | done | with_reducible rfl
  simp only [Act.put, List.setIfInBounds_toArray, List.set_cons_zero, List.set_cons_succ]
  refine tkY 2 (some 38) rfl rfl (by kernel_rfl) (by kernel_rfl) (by kernel_rfl) (fun _ _ _ h => h) (by rfl) (v := ?tkvt3_2) ?tkyt3_2 (by assumption) rfl ?tkrt3_2
  case tkyt3_2 =>
    intro W' hSw
    try dsimp only at hSw
    go_simp
    first | done | with_reducible rfl
  simp only [Act.put, List.setIfInBounds_toArray, List.set_cons_zero, List.set_cons_succ]
  refine tkY 3 (some 39) rfl rfl (by kernel_rfl) (by kernel_rfl) (by kernel_rfl) (fun _ _ _ h => h) (by rfl) (v := ?tkvt4_3) ?tkyt4_3 (by assumption) rfl ?tkrt4_3
  case tkyt4_3 =>
    intro W' hSw
    try dsimp only at hSw
    go_simp
    first | done | with_reducible rfl
  simp only [Act.put, List.setIfInBounds_toArray, List.set_cons_zero, List.set_cons_succ]
  refine tkY 4 (some 40) rfl rfl (by kernel_rfl) (by kernel_rfl) (by kernel_rfl) (fun _ _ _ h => h) (by rfl) (v := ?tkvt5_4) ?tkyt5_4 (by assumption) rfl ?tkrt5_4
  case tkyt5_4 =>
    intro W' hSw
    try dsimp only at hSw
    go_simp
    first | done | with_reducible rfl
  simp only [Act.put, List.setIfInBounds_toArray, List.set_cons_zero, List.set_cons_succ]
  refine tkY 5 (some 41) rfl rfl (by kernel_rfl) (by kernel_rfl) (by kernel_rfl) (fun _ _ _ h => h) (by rfl) (v := ?tkvt6_5) ?tkyt6_5 (by assumption) rfl ?tkrt6_5
  case tkyt6_5 =>
    intro W' hSw
    try dsimp only at hSw
    go_simp
    first | done | with_reducible rfl
  simp only [Act.put, List.setIfInBounds_toArray, List.set_cons_zero, List.set_cons_succ]
  refine wpAnyH_ready (rs := [6]) (by kernel_rfl) (by simp) (AllReadyH.cons (at_drop rfl) (fun KC hKC => ?_) AllReadyH.nil)
  go_simp
  refine (shred_Check.calls P0 q0 x.f0 P1 q1 x.f1 x.f2 x.f3 x.f4.f0 x.f4.f1 A2_0 c2_0 l2_0 A2_1 c2_1 l2_1 A2_2 c2_2 l2_2 e0 _ hFd.g0 hFd.h0 hFd.g1 hFd.h1 (Kd.C_below hr2_0 hSd.below) hc2_0 (Kd.C_below hr2_1 hSd.below) hc2_1 (Kd.C_below hr2_2 hSd.below) hc2_2 HE.out).mono ?_
  rintro e w6 ⟨rfl, hB6⟩
  have hS6 := hSd.next hB6
  have hF6 := hFd.next hB6
  refine hKC.out _ _ ⟨⟨hS6.cells.2.1, hS6.cells.2.2.1⟩, hF6.e0, hF6.e1, hF6.e2, hF6.e3, hF6.e4, hF6.e5⟩ (fun hHeld => ?_)
  clear hKC KC
  try simp only [Act.put, List.setIfInBounds_toArray, List.set_cons_zero, List.set_cons_succ]
  refine tkY 7 (some 8) rfl rfl (by kernel_rfl) (by kernel_rfl) (by kernel_rfl) (fun _ _ _ h => h) (by rfl) (v := ?tkvt7_7) ?tkyt7_7 (by assumption) rfl ?tkrt7_7
  case tkyt7_7 =>
    intro W' hSw
    try dsimp only at hSw
    go_simp
    first | done | with_reducible rfl
  simp only [Act.put, List.setIfInBounds_toArray, List.set_cons_zero, List.set_cons_succ]
  refine wpAnyH_done (by kernel_rfl) ?_ _
  clear hSd hFd hB6 hHeld s0 s1 y0 y1 y2 y3 y4 y5 y6 y7 hS4 hF C7 HE
  obtain ⟨⟨s0, s1⟩, ⟨y0, y1, y2⟩, ⟨y3, y4, y5⟩, y6, y7⟩ := hS6.cells
  go_wp2_with fail
  refine (shred_Copy.calls A2_0 c2_0 l2_0 A2_1 c2_1 l2_1 A2_2 c2_2 l2_2 p0 p1 p2 _ (Kd.C_below hr2_0 hS6.below) hc2_0 (Kd.C_below hr2_1 hS6.below) hc2_1 (Kd.C_below hr2_2 hS6.below) hc2_2 HC.out).mono ?_
  rintro e w7 ⟨v0, v1, v2, rfl, Q0, Q1, Q2, hB7⟩
  obtain ⟨D0, d0, rfl⟩ := Kd.R_slice Q0
  obtain ⟨D1, d1, rfl⟩ := Kd.R_slice Q1
  obtain ⟨D2, d2, rfl⟩ := Kd.R_slice Q2
  have hS7 := hS6.next hB7
  have hF7 := hF6.next hB7
  clear hB7 hS6 hF6 s0 s1 y0 y1 y2 y3 y4 y5 y6 y7 HC
  obtain ⟨⟨s0, s1⟩, ⟨y0, y1, y2⟩, ⟨y3, y4, y5⟩, y6, y7⟩ := hS7.cells
  go_wp2_with fail
  have k9 := blk_new w7 (.cells #[.slice D0 p0.length d0, .slice D1 p1.length d1, .slice D2 p2.length d2] 28)
  have hb78 := below_alloc (Below.refl w7.heap.size w7) (.cells #[.slice D0 p0.length d0, .slice D1 p1.length d1, .slice D2 p2.length d2] 28)
  generalize (w7.alloc (.cells #[.slice D0 p0.length d0, .slice D1 p1.length d1, .slice D2 p2.length d2] 28)) = w8 at *
  obtain ⟨-, hd0, C0⟩ := Kd.R_reads' (Kd.R_below Q0 hb78)
  obtain ⟨-, hd1, C1⟩ := Kd.R_reads' (Kd.R_below Q1 hb78)
  obtain ⟨-, hd2, C2⟩ := Kd.R_reads' (Kd.R_below Q2 hb78)
  have hS8 := (hS7.next hb78).drew
  have hF8 := (hF7.next hb78).drew
  replace C0 := Kd.C_drew C0
  replace C1 := Kd.C_drew C1
  replace C2 := Kd.C_drew C2
  have k9d : w8.drew.heap[w7.heap.size]? = some (.cells #[.slice D0 p0.length d0, .slice D1 p1.length d1, .slice D2 p2.length d2] 28 (0, 0)) := k9
  clear Q0 Q1 Q2 hb78 k9 hS7 hF7 s0 s1 y0 y1 y2 y3 y4 y5 y6 y7
  generalize hB9 : w7.heap.size = B9 at *
  refine wp_region_held_drew (S := (fun W => ((W.cell? ⟨w.heap.size + 1, 0, none⟩ = some (.slice A2_0 l2_0.length c2_0) ∧ W.cell? ⟨w.heap.size + 1, 1, none⟩ = some (.slice A2_1 l2_1.length c2_1) ∧ W.cell? ⟨w.heap.size + 1, 2, none⟩ = some (.slice A2_2 l2_2.length c2_2)) ∧ (W.cell? ⟨w.heap.size + 1, 3, none⟩ = some (.slice A2_3 l2_3.length c2_3) ∧ W.cell? ⟨w.heap.size + 1, 4, none⟩ = some (.slice A2_4 l2_4.length c2_4) ∧ W.cell? ⟨w.heap.size + 1, 5, none⟩ = some (.slice A2_5 l2_5.length c2_5))) ∧ (W.cell? (ad7.add (j * 6)) = some (.slice P0 x.f0.length q0) ∧ W.cell? ⟨(ad7.add (j * 6)).block, (ad7.add (j * 6)).off + 1, none⟩ = some (.slice P1 x.f1.length q1) ∧ W.cell? ⟨(ad7.add (j * 6)).block, (ad7.add (j * 6)).off + 2, none⟩ = some (.int .i64 x.f2) ∧ W.cell? ⟨(ad7.add (j * 6)).block, (ad7.add (j * 6)).off + 3, none⟩ = some (.int .i64 x.f3) ∧ W.cell? ⟨(ad7.add (j * 6)).block, (ad7.add (j * 6)).off + 4, none⟩ = some (.int .i64 x.f4.f0) ∧ W.cell? ⟨(ad7.add (j * 6)).block, (ad7.add (j * 6)).off + 5, none⟩ = some (.int .i64 x.f4.f1)) ∧ (W.cell? ⟨B9, 0, none⟩ = some (.slice D0 p0.length d0) ∧ W.cell? ⟨B9, 1, none⟩ = some (.slice D1 p1.length d1) ∧ W.cell? ⟨B9, 2, none⟩ = some (.slice D2 p2.length d2)))) (by kernel_rfl) ⟨⟨hS8.cells.2.1, hS8.cells.2.2.1⟩, ⟨hF8.e0, hF8.e1, hF8.e2, hF8.e3, hF8.e4, hF8.e5⟩, blk_cell k9d 0, blk_cell k9d 1, blk_cell k9d 2⟩ (fun hHeld => ?_)
  generalize w8.drew = w9 at *
  clear hB9
  rcases hor with ⟨rfl, rfl⟩ | ⟨rfl, rfl⟩
  case inl =>
    refine tkY 0 (some 46) rfl rfl (by kernel_rfl) (by kernel_rfl) (by kernel_rfl) (fun _ _ _ h => h) (by rfl) (v := ?tkvt8_0) ?tkyt8_0 (by assumption) rfl ?tkrt8_0
    case tkyt8_0 =>
      intro W' hSw
      try dsimp only at hSw
      go_simp
      first | done | with_reducible rfl
    simp only [Act.put, List.setIfInBounds_toArray, List.set_cons_zero, List.set_cons_succ]
    refine tkY 1 (some 47) rfl rfl (by kernel_rfl) (by kernel_rfl) (by kernel_rfl) (fun _ _ _ h => h) (by rfl) (v := ?tkvt9_1) ?tkyt9_1 (by assumption) rfl ?tkrt9_1
    case tkyt9_1 =>
      intro W' hSw
      try dsimp only at hSw
      go_simp
      first | done | with_reducible rfl
    simp only [Act.put, List.setIfInBounds_toArray, List.set_cons_zero, List.set_cons_succ]
    refine tkY 2 (some 48) rfl rfl (by kernel_rfl) (by kernel_rfl) (by kernel_rfl) (fun _ _ _ h => h) (by rfl) (v := ?tkvt10_2) ?tkyt10_2 (by assumption) rfl ?tkrt10_2
    case tkyt10_2 =>
      intro W' hSw
      try dsimp only at hSw
      go_simp
      first | done | with_reducible rfl
    simp only [Act.put, List.setIfInBounds_toArray, List.set_cons_zero, List.set_cons_succ]
    refine tkY 3 (some 49) rfl rfl (by kernel_rfl) (by kernel_rfl) (by kernel_rfl) (fun _ _ _ h => h) (by rfl) (v := ?tkvt11_3) ?tkyt11_3 (by assumption) rfl ?tkrt11_3
    case tkyt11_3 =>
      intro W' hSw
      try dsimp only at hSw
      go_simp
      first | done | with_reducible rfl
    simp only [Act.put, List.setIfInBounds_toArray, List.set_cons_zero, List.set_cons_succ]
    refine tkY 4 (some 50) rfl rfl (by kernel_rfl) (by kernel_rfl) (by kernel_rfl) (fun _ _ _ h => h) (by rfl) (v := ?tkvt12_4) ?tkyt12_4 (by assumption) rfl ?tkrt12_4
    case tkyt12_4 =>
      intro W' hSw
      try dsimp only at hSw
      go_simp
      first | done | with_reducible rfl
    simp only [Act.put, List.setIfInBounds_toArray, List.set_cons_zero, List.set_cons_succ]
    refine tkY 5 (some 51) rfl rfl (by kernel_rfl) (by kernel_rfl) (by kernel_rfl) (fun _ _ _ h => h) (by rfl) (v := ?tkvt13_5) ?tkyt13_5 (by assumption) rfl ?tkrt13_5
    case tkyt13_5 =>
      intro W' hSw
      try dsimp only at hSw
      go_simp
      first | done | with_reducible rfl
    simp only [Act.put, List.setIfInBounds_toArray, List.set_cons_zero, List.set_cons_succ]
    refine tkY 6 (some 52) rfl rfl (by kernel_rfl) (by kernel_rfl) (by kernel_rfl) (fun _ _ _ h => h) (by rfl) (v := ?tkvt14_6) ?tkyt14_6 (by assumption) rfl ?tkrt14_6
    case tkyt14_6 =>
      intro W' hSw
      try dsimp only at hSw
      go_simp
      first | done | with_reducible rfl
    simp only [Act.put, List.setIfInBounds_toArray, List.set_cons_zero, List.set_cons_succ]
    refine tkY 7 (some 53) rfl rfl (by kernel_rfl) (by kernel_rfl) (by kernel_rfl) (fun _ _ _ h => h) (by rfl) (v := ?tkvt15_7) ?tkyt15_7 (by assumption) rfl ?tkrt15_7
    case tkyt15_7 =>
      intro W' hSw
      try dsimp only at hSw
      go_simp
      first | done | with_reducible rfl
    simp only [Act.put, List.setIfInBounds_toArray, List.set_cons_zero, List.set_cons_succ]
    refine wpAnyH_ready (rs := [8]) (by kernel_rfl) (by simp) (AllReadyH.cons (at_drop rfl) (fun KC hKC => ?_) AllReadyH.nil)
    go_simp
    refine (marquetryref17_Right.calls k P0 q0 x.f0 P1 q1 x.f1 x.f2 x.f3 x.f4.f0 x.f4.f1 A2_0 c2_0 l2_0 A2_1 c2_1 l2_1 A2_2 c2_2 l2_2 _ _ hF8.g0 hF8.h0 hF8.g1 hF8.h1 (Kd.C_below hr2_0 hS8.below) hc2_0 (Kd.C_below hr2_1 hS8.below) hc2_1 (Kd.C_below hr2_2 hS8.below) hc2_2 HR.out).mono ?_
    rintro e w10 ⟨rfl, hB10⟩
    have hS10 := hS8.next hB10
    have hF10 := hF8.next hB10
    have k9_10 := blk_below k9d hB10
    refine hKC.out _ _ ⟨⟨hS10.cells.2.1, hS10.cells.2.2.1⟩, ⟨hF10.e0, hF10.e1, hF10.e2, hF10.e3, hF10.e4, hF10.e5⟩, blk_cell k9_10 0, blk_cell k9_10 1, blk_cell k9_10 2⟩ (fun hHeld => ?_)
    clear hKC KC
    try simp only [Act.put, List.setIfInBounds_toArray, List.set_cons_zero, List.set_cons_succ]
    refine tkY 9 (some 55) rfl rfl (by kernel_rfl) (by kernel_rfl) (by kernel_rfl) (fun _ _ _ h => h) (by rfl) (v := ?tkvt16_9) ?tkyt16_9 (by assumption) rfl ?tkrt16_9
    case tkyt16_9 =>
      intro W' hSw
      try dsimp only at hSw
      go_simp
      first | done | with_reducible rfl
    simp only [Act.put, List.setIfInBounds_toArray, List.set_cons_zero, List.set_cons_succ]
    refine tkY 10 (some 56) rfl rfl (by kernel_rfl) (by kernel_rfl) (by kernel_rfl) (fun _ _ _ h => h) (by rfl) (v := ?tkvt17_10) ?tkyt17_10 (by assumption) rfl ?tkrt17_10
    case tkyt17_10 =>
      intro W' hSw
      try dsimp only at hSw
      go_simp
      first | done | with_reducible rfl
    simp only [Act.put, List.setIfInBounds_toArray, List.set_cons_zero, List.set_cons_succ]
    refine tkY 11 (some 57) rfl rfl (by kernel_rfl) (by kernel_rfl) (by kernel_rfl) (fun _ _ _ h => h) (by rfl) (v := ?tkvt18_11) ?tkyt18_11 (by assumption) rfl ?tkrt18_11
    case tkyt18_11 =>
      intro W' hSw
      try dsimp only at hSw
      go_simp
      first | done | with_reducible rfl
    simp only [Act.put, List.setIfInBounds_toArray, List.set_cons_zero, List.set_cons_succ]
    refine tkY 12 (some 58) rfl rfl (by kernel_rfl) (by kernel_rfl) (by kernel_rfl) (fun _ _ _ h => h) (by rfl) (v := ?tkvt19_12) ?tkyt19_12 (by assumption) rfl ?tkrt19_12
    case tkyt19_12 =>
      intro W' hSw
      try dsimp only at hSw
      go_simp
      first | done | with_reducible rfl
    simp only [Act.put, List.setIfInBounds_toArray, List.set_cons_zero, List.set_cons_succ]
    refine tkY 13 (some 59) rfl rfl (by kernel_rfl) (by kernel_rfl) (by kernel_rfl) (fun _ _ _ h => h) (by rfl) (v := ?tkvt20_13) ?tkyt20_13 (by assumption) rfl ?tkrt20_13
    case tkyt20_13 =>
      intro W' hSw
      try dsimp only at hSw
      go_simp
      first | done | with_reducible rfl
    simp only [Act.put, List.setIfInBounds_toArray, List.set_cons_zero, List.set_cons_succ]
    refine tkN 14 (some 60) rfl rfl (by kernel_rfl) (by kernel_rfl) (by kernel_rfl) (fun _ _ _ h => h) (by rfl) (by assumption) rfl ?tkrt21_14
    simp only [Act.put, List.setIfInBounds_toArray, List.set_cons_zero, List.set_cons_succ]
    refine tkN 15 (some 61) rfl rfl (by kernel_rfl) (by kernel_rfl) (by kernel_rfl) (fun _ _ _ h => h) (by rfl) (by assumption) rfl ?tkrt22_15
    simp only [Act.put, List.setIfInBounds_toArray, List.set_cons_zero, List.set_cons_succ]
    refine tkY 16 (some 62) rfl rfl (by kernel_rfl) (by kernel_rfl) (by kernel_rfl) (fun _ _ _ h => h) (by rfl) (v := ?tkvt23_16) ?tkyt23_16 (by assumption) rfl ?tkrt23_16
    case tkyt23_16 =>
      intro W' hSw
      try dsimp only at hSw
      go_simp
      first | done | with_reducible rfl
    simp only [Act.put, List.setIfInBounds_toArray, List.set_cons_zero, List.set_cons_succ]
    refine tkY 17 (some 63) rfl rfl (by kernel_rfl) (by kernel_rfl) (by kernel_rfl) (fun _ _ _ h => h) (by rfl) (v := ?tkvt24_17) ?tkyt24_17 (by assumption) rfl ?tkrt24_17
    case tkyt24_17 =>
      intro W' hSw
      try dsimp only at hSw
      go_simp
      first | done | with_reducible rfl
    simp only [Act.put, List.setIfInBounds_toArray, List.set_cons_zero, List.set_cons_succ]
    refine tkY 18 (some 64) rfl rfl (by kernel_rfl) (by kernel_rfl) (by kernel_rfl) (fun _ _ _ h => h) (by rfl) (v := ?tkvt25_18) ?tkyt25_18 (by assumption) rfl ?tkrt25_18
    case tkyt25_18 =>
      intro W' hSw
      try dsimp only at hSw
      go_simp
      first | done | with_reducible rfl
    simp only [Act.put, List.setIfInBounds_toArray, List.set_cons_zero, List.set_cons_succ]
    refine tkY 19 (some 65) rfl rfl (by kernel_rfl) (by kernel_rfl) (by kernel_rfl) (fun _ _ _ h => h) (by rfl) (v := ?tkvt26_19) ?tkyt26_19 (by assumption) rfl ?tkrt26_19
    case tkyt26_19 =>
      intro W' hSw
      try dsimp only at hSw
      go_simp
      first | done | with_reducible rfl
    simp only [Act.put, List.setIfInBounds_toArray, List.set_cons_zero, List.set_cons_succ]
    refine tkY 20 (some 66) rfl rfl (by kernel_rfl) (by kernel_rfl) (by kernel_rfl) (fun _ _ _ h => h) (by rfl) (v := ?tkvt27_20) ?tkyt27_20 (by assumption) rfl ?tkrt27_20
    case tkyt27_20 =>
      intro W' hSw
      try dsimp only at hSw
      go_simp
      first | done | with_reducible rfl
    simp only [Act.put, List.setIfInBounds_toArray, List.set_cons_zero, List.set_cons_succ]
    refine tkY 22 (some 68) rfl rfl (by kernel_rfl) (by kernel_rfl) (by kernel_rfl) (fun _ _ _ h => h) (by rfl) (v := ?tkvt28_22) ?tkyt28_22 (by assumption) rfl ?tkrt28_22
    case tkyt28_22 =>
      intro W' hSw
      try dsimp only at hSw
      go_simp
      first | done | with_reducible rfl
    simp only [Act.put, List.setIfInBounds_toArray, List.set_cons_zero, List.set_cons_succ]
    refine tkY 23 (some 69) rfl rfl (by kernel_rfl) (by kernel_rfl) (by kernel_rfl) (fun _ _ _ h => h) (by rfl) (v := ?tkvt29_23) ?tkyt29_23 (by assumption) rfl ?tkrt29_23
    case tkyt29_23 =>
      intro W' hSw
      try dsimp only at hSw
      go_simp
      first | done | with_reducible rfl
    simp only [Act.put, List.setIfInBounds_toArray, List.set_cons_zero, List.set_cons_succ]
    refine wpAnyH_ready (rs := [21]) (by kernel_rfl) (by simp) (AllReadyH.cons (at_drop rfl) (fun KC hKC => ?_) AllReadyH.nil)
    go_simp
    refine (shred_Rows.calls A2_0 c2_0 l2_0 A2_1 c2_1 l2_1 A2_2 c2_2 l2_2 n1 _ (Kd.C_below hr2_0 hS10.below) hc2_0 (Kd.C_below hr2_1 hS10.below) hc2_1 (Kd.C_below hr2_2 hS10.below) hc2_2 HN1.out).mono ?_
    rintro e w11 ⟨rfl, hB11⟩
    have hS11 := hS10.next hB11
    have hF11 := hF10.next hB11
    have k9_11 := blk_below k9_10 hB11
    refine hKC.out _ _ ⟨⟨hS11.cells.2.1, hS11.cells.2.2.1⟩, ⟨hF11.e0, hF11.e1, hF11.e2, hF11.e3, hF11.e4, hF11.e5⟩, blk_cell k9_11 0, blk_cell k9_11 1, blk_cell k9_11 2⟩ (fun hHeld => ?_)
    clear hKC KC
    try simp only [Act.put, List.setIfInBounds_toArray, List.set_cons_zero, List.set_cons_succ]
    refine wpAnyH_ready (rs := [24]) (by kernel_rfl) (by simp) (AllReadyH.cons (at_drop rfl) (fun KC hKC => ?_) AllReadyH.nil)
    go_simp
    refine (marquetryref17_Rows.calls k A2_0 c2_0 l2_0 A2_1 c2_1 l2_1 A2_2 c2_2 l2_2 n1 _ (Kd.C_below hr2_0 hS11.below) hc2_0 (Kd.C_below hr2_1 hS11.below) hc2_1 (Kd.C_below hr2_2 hS11.below) hc2_2 HN2.out).mono ?_
    rintro e w12 ⟨rfl, hB12⟩
    have hS12 := hS11.next hB12
    have hF12 := hF11.next hB12
    have k9_12 := blk_below k9_11 hB12
    refine hKC.out _ _ ⟨⟨hS12.cells.2.1, hS12.cells.2.2.1⟩, ⟨hF12.e0, hF12.e1, hF12.e2, hF12.e3, hF12.e4, hF12.e5⟩, blk_cell k9_12 0, blk_cell k9_12 1, blk_cell k9_12 2⟩ (fun hHeld => ?_)
    clear hKC KC
    try simp only [Act.put, List.setIfInBounds_toArray, List.set_cons_zero, List.set_cons_succ]
    refine tkY 25 (some 71) rfl rfl (by kernel_rfl) (by kernel_rfl) (by kernel_rfl) (fun _ _ _ h => h) (by rfl) (v := ?tkvt30_25) ?tkyt30_25 (by assumption) rfl ?tkrt30_25
    case tkyt30_25 =>
      intro W' hSw
      try dsimp only at hSw
      go_simp
      first | done | with_reducible rfl
    simp only [Act.put, List.setIfInBounds_toArray, List.set_cons_zero, List.set_cons_succ]
    refine tkY 26 (some 72) rfl rfl (by kernel_rfl) (by kernel_rfl) (by kernel_rfl) (fun _ _ _ h => h) (by rfl) (v := ?tkvt31_26) ?tkyt31_26 (by assumption) rfl ?tkrt31_26
    case tkyt31_26 =>
      intro W' hSw
      try dsimp only at hSw
      go_simp
      first | done | with_reducible rfl
    simp only [Act.put, List.setIfInBounds_toArray, List.set_cons_zero, List.set_cons_succ]
    refine tkY 27 (some 73) rfl rfl (by kernel_rfl) (by kernel_rfl) (by kernel_rfl) (fun _ _ _ h => h) (by rfl) (v := ?tkvt32_27) ?tkyt32_27 (by assumption) rfl ?tkrt32_27
    case tkyt32_27 =>
      intro W' hSw
      try dsimp only at hSw
      go_simp
      first | done | with_reducible rfl
    simp only [Act.put, List.setIfInBounds_toArray, List.set_cons_zero, List.set_cons_succ]
    refine tkY 28 (some 74) rfl rfl (by kernel_rfl) (by kernel_rfl) (by kernel_rfl) (fun _ _ _ h => h) (by rfl) (v := ?tkvt33_28) ?tkyt33_28 (by assumption) rfl ?tkrt33_28
    case tkyt33_28 =>
      intro W' hSw
      try dsimp only at hSw
      go_simp
      first | done | with_reducible rfl
    simp only [Act.put, List.setIfInBounds_toArray, List.set_cons_zero, List.set_cons_succ]
    refine tkY 29 (some 75) rfl rfl (by kernel_rfl) (by kernel_rfl) (by kernel_rfl) (fun _ _ _ h => h) (by rfl) (v := ?tkvt34_29) ?tkyt34_29 (by assumption) rfl ?tkrt34_29
    case tkyt34_29 =>
      intro W' hSw
      try dsimp only at hSw
      go_simp
      first | done | with_reducible rfl
    simp only [Act.put, List.setIfInBounds_toArray, List.set_cons_zero, List.set_cons_succ]
    refine tkY 30 (some 76) rfl rfl (by kernel_rfl) (by kernel_rfl) (by kernel_rfl) (fun _ _ _ h => h) (by rfl) (v := ?tkvt35_30) ?tkyt35_30 (by assumption) rfl ?tkrt35_30
    case tkyt35_30 =>
      intro W' hSw
      try dsimp only at hSw
      go_simp
      first | done | with_reducible rfl
    simp only [Act.put, List.setIfInBounds_toArray, List.set_cons_zero, List.set_cons_succ]
    refine tkY 31 (some 77) rfl rfl (by kernel_rfl) (by kernel_rfl) (by kernel_rfl) (fun _ _ _ h => h) (by rfl) (v := ?tkvt36_31) ?tkyt36_31 (by assumption) rfl ?tkrt36_31
    case tkyt36_31 =>
      intro W' hSw
      try dsimp only at hSw
      go_simp
      first | done | with_reducible rfl
    simp only [Act.put, List.setIfInBounds_toArray, List.set_cons_zero, List.set_cons_succ]
    refine tkY 33 (some 79) rfl rfl (by kernel_rfl) (by kernel_rfl) (by kernel_rfl) (fun _ _ _ h => h) (by rfl) (v := ?tkvt37_33) ?tkyt37_33 (by assumption) rfl ?tkrt37_33
    case tkyt37_33 =>
      intro W' hSw
      try dsimp only at hSw
      go_simp
      first | done | with_reducible rfl
    simp only [Act.put, List.setIfInBounds_toArray, List.set_cons_zero, List.set_cons_succ]
    refine tkY 34 (some 80) rfl rfl (by kernel_rfl) (by kernel_rfl) (by kernel_rfl) (fun _ _ _ h => h) (by rfl) (v := ?tkvt38_34) ?tkyt38_34 (by assumption) rfl ?tkrt38_34
    case tkyt38_34 =>
      intro W' hSw
      try dsimp only at hSw
      go_simp
      first | done | with_reducible rfl
    simp only [Act.put, List.setIfInBounds_toArray, List.set_cons_zero, List.set_cons_succ]
    refine tkY 35 (some 81) rfl rfl (by kernel_rfl) (by kernel_rfl) (by kernel_rfl) (fun _ _ _ h => h) (by rfl) (v := ?tkvt39_35) ?tkyt39_35 (by assumption) rfl ?tkrt39_35
    case tkyt39_35 =>
      intro W' hSw
      try dsimp only at hSw
      go_simp
      first | done | with_reducible rfl
    simp only [Act.put, List.setIfInBounds_toArray, List.set_cons_zero, List.set_cons_succ]
    refine tkY 36 (some 82) rfl rfl (by kernel_rfl) (by kernel_rfl) (by kernel_rfl) (fun _ _ _ h => h) (by rfl) (v := ?tkvt40_36) ?tkyt40_36 (by assumption) rfl ?tkrt40_36
    case tkyt40_36 =>
      intro W' hSw
      try dsimp only at hSw
      go_simp
      first | done | with_reducible rfl
    simp only [Act.put, List.setIfInBounds_toArray, List.set_cons_zero, List.set_cons_succ]
    refine wpAnyH_ready (rs := [32]) (by kernel_rfl) (by simp) (AllReadyH.cons (at_drop rfl) (fun KC hKC => ?_) AllReadyH.nil)
    go_simp
    refine (shred_Same.calls A2_0 c2_0 l2_0 A2_1 c2_1 l2_1 A2_2 c2_2 l2_2 A2_3 c2_3 l2_3 A2_4 c2_4 l2_4 A2_5 c2_5 l2_5 s1' _ (Kd.C_below hr2_0 hS12.below) hc2_0 (Kd.C_below hr2_1 hS12.below) hc2_1 (Kd.C_below hr2_2 hS12.below) hc2_2 (Kd.C_below hr2_3 hS12.below) hc2_3 (Kd.C_below hr2_4 hS12.below) hc2_4 (Kd.C_below hr2_5 hS12.below) hc2_5 HS1.out).mono ?_
    rintro e w13 ⟨rfl, hB13⟩
    have hS13 := hS12.next hB13
    have hF13 := hF12.next hB13
    have k9_13 := blk_below k9_12 hB13
    refine hKC.out _ _ ⟨⟨hS13.cells.2.1, hS13.cells.2.2.1⟩, ⟨hF13.e0, hF13.e1, hF13.e2, hF13.e3, hF13.e4, hF13.e5⟩, blk_cell k9_13 0, blk_cell k9_13 1, blk_cell k9_13 2⟩ (fun hHeld => ?_)
    clear hKC KC
    try simp only [Act.put, List.setIfInBounds_toArray, List.set_cons_zero, List.set_cons_succ]
    refine wpAnyH_ready (rs := [37]) (by kernel_rfl) (by simp) (AllReadyH.cons (at_drop rfl) (fun KC hKC => ?_) AllReadyH.nil)
    go_simp
    refine (marquetryref17_SameColumn.calls k A2_0 c2_0 l2_0 A2_1 c2_1 l2_1 A2_2 c2_2 l2_2 A2_3 c2_3 l2_3 A2_4 c2_4 l2_4 A2_5 c2_5 l2_5 s1' _ (Kd.C_below hr2_0 hS13.below) hc2_0 (Kd.C_below hr2_1 hS13.below) hc2_1 (Kd.C_below hr2_2 hS13.below) hc2_2 (Kd.C_below hr2_3 hS13.below) hc2_3 (Kd.C_below hr2_4 hS13.below) hc2_4 (Kd.C_below hr2_5 hS13.below) hc2_5 HS2.out).mono ?_
    rintro e w14 ⟨rfl, hB14⟩
    have hS14 := hS13.next hB14
    have hF14 := hF13.next hB14
    have k9_14 := blk_below k9_13 hB14
    refine hKC.out _ _ ⟨⟨hS14.cells.2.1, hS14.cells.2.2.1⟩, ⟨hF14.e0, hF14.e1, hF14.e2, hF14.e3, hF14.e4, hF14.e5⟩, blk_cell k9_14 0, blk_cell k9_14 1, blk_cell k9_14 2⟩ (fun hHeld => ?_)
    clear hKC KC
    try simp only [Act.put, List.setIfInBounds_toArray, List.set_cons_zero, List.set_cons_succ]
    refine tkY 38 (some 84) rfl rfl (by kernel_rfl) (by kernel_rfl) (by kernel_rfl) (fun _ _ _ h => h) (by rfl) (v := ?tkvt41_38) ?tkyt41_38 (by assumption) rfl ?tkrt41_38
    case tkyt41_38 =>
      intro W' hSw
      try dsimp only at hSw
      go_simp
      first | done | with_reducible rfl
    simp only [Act.put, List.setIfInBounds_toArray, List.set_cons_zero, List.set_cons_succ]
    refine tkY 39 (some 85) rfl rfl (by kernel_rfl) (by kernel_rfl) (by kernel_rfl) (fun _ _ _ h => h) (by rfl) (v := ?tkvt42_39) ?tkyt42_39 (by assumption) rfl ?tkrt42_39
    case tkyt42_39 =>
      intro W' hSw
      try dsimp only at hSw
      go_simp
      first | done | with_reducible rfl
    simp only [Act.put, List.setIfInBounds_toArray, List.set_cons_zero, List.set_cons_succ]
    refine tkY 40 (some 86) rfl rfl (by kernel_rfl) (by kernel_rfl) (by kernel_rfl) (fun _ _ _ h => h) (by rfl) (v := ?tkvt43_40) ?tkyt43_40 (by assumption) rfl ?tkrt43_40
    case tkyt43_40 =>
      intro W' hSw
      try dsimp only at hSw
      go_simp
      first | done | with_reducible rfl
    simp only [Act.put, List.setIfInBounds_toArray, List.set_cons_zero, List.set_cons_succ]
    refine tkY 41 (some 87) rfl rfl (by kernel_rfl) (by kernel_rfl) (by kernel_rfl) (fun _ _ _ h => h) (by rfl) (v := ?tkvt44_41) ?tkyt44_41 (by assumption) rfl ?tkrt44_41
    case tkyt44_41 =>
      intro W' hSw
      try dsimp only at hSw
      go_simp
      first | done | with_reducible rfl
    simp only [Act.put, List.setIfInBounds_toArray, List.set_cons_zero, List.set_cons_succ]
    refine tkY 42 (some 88) rfl rfl (by kernel_rfl) (by kernel_rfl) (by kernel_rfl) (fun _ _ _ h => h) (by rfl) (v := ?tkvt45_42) ?tkyt45_42 (by assumption) rfl ?tkrt45_42
    case tkyt45_42 =>
      intro W' hSw
      try dsimp only at hSw
      go_simp
      first | done | with_reducible rfl
    simp only [Act.put, List.setIfInBounds_toArray, List.set_cons_zero, List.set_cons_succ]
    refine tkY 43 (some 89) rfl rfl (by kernel_rfl) (by kernel_rfl) (by kernel_rfl) (fun _ _ _ h => h) (by rfl) (v := ?tkvt46_43) ?tkyt46_43 (by assumption) rfl ?tkrt46_43
    case tkyt46_43 =>
      intro W' hSw
      try dsimp only at hSw
      go_simp
      first | done | with_reducible rfl
    simp only [Act.put, List.setIfInBounds_toArray, List.set_cons_zero, List.set_cons_succ]
    refine wpAnyH_ready (rs := [44]) (by kernel_rfl) (by simp) (AllReadyH.cons (at_drop rfl) (fun KC hKC => ?_) AllReadyH.nil)
    go_simp
    refine (marquetryref17_SameColumn.calls k D0 d0 p0 D1 d1 p1 D2 d2 p2 A2_0 c2_0 l2_0 A2_1 c2_1 l2_1 A2_2 c2_2 l2_2 true _ (Kd.C_below C0 (below_step (below_step (below_step (below_step hB10 hB11) hB12) hB13) hB14)) hd0 (Kd.C_below C1 (below_step (below_step (below_step (below_step hB10 hB11) hB12) hB13) hB14)) hd1 (Kd.C_below C2 (below_step (below_step (below_step (below_step hB10 hB11) hB12) hB13) hB14)) hd2 (Kd.C_below hr2_0 hS14.below) hc2_0 (Kd.C_below hr2_1 hS14.below) hc2_1 (Kd.C_below hr2_2 hS14.below) hc2_2 HS3.out).mono ?_
    rintro e w15 ⟨rfl, hB15⟩
    have hS15 := hS14.next hB15
    have hF15 := hF14.next hB15
    have k9_15 := blk_below k9_14 hB15
    refine hKC.out _ _ ⟨⟨hS15.cells.2.1, hS15.cells.2.2.1⟩, ⟨hF15.e0, hF15.e1, hF15.e2, hF15.e3, hF15.e4, hF15.e5⟩, blk_cell k9_15 0, blk_cell k9_15 1, blk_cell k9_15 2⟩ (fun hHeld => ?_)
    clear hKC KC
    try simp only [Act.put, List.setIfInBounds_toArray, List.set_cons_zero, List.set_cons_succ]
    refine tkY 45 (some 91) rfl rfl (by kernel_rfl) (by kernel_rfl) (by kernel_rfl) (fun _ _ _ h => h) (by rfl) (v := ?tkvt47_45) ?tkyt47_45 (by assumption) rfl ?tkrt47_45
    case tkyt47_45 =>
      intro W' hSw
      try dsimp only at hSw
      go_simp
      first | done | with_reducible rfl
    simp only [Act.put, List.setIfInBounds_toArray, List.set_cons_zero, List.set_cons_succ]
    refine tkY 46 (some 6) rfl rfl (by kernel_rfl) (by kernel_rfl) (by kernel_rfl) (fun _ _ _ h => h) (by rfl) (v := ?tkvt48_46) ?tkyt48_46 (by assumption) rfl ?tkrt48_46
    case tkyt48_46 =>
      intro W' hSw
      try dsimp only at hSw
      go_simp
      first | done | with_reducible rfl
    simp only [Act.put, List.setIfInBounds_toArray, List.set_cons_zero, List.set_cons_succ]
    refine wpAnyH_done (by kernel_rfl) ?_ _
    go_wp2_with fail
    go_ret
    exact ⟨rfl, hS15.below⟩
  case inr =>
    refine tkY 0 (some 46) rfl rfl (by kernel_rfl) (by kernel_rfl) (by kernel_rfl) (fun _ _ _ h => h) (by rfl) (v := ?tkvt49_0) ?tkyt49_0 (by assumption) rfl ?tkrt49_0
    case tkyt49_0 =>
      intro W' hSw
      try dsimp only at hSw
      go_simp
      first | done | with_reducible rfl
    simp only [Act.put, List.setIfInBounds_toArray, List.set_cons_zero, List.set_cons_succ]
    refine tkY 1 (some 47) rfl rfl (by kernel_rfl) (by kernel_rfl) (by kernel_rfl) (fun _ _ _ h => h) (by rfl) (v := ?tkvt50_1) ?tkyt50_1 (by assumption) rfl ?tkrt50_1
    case tkyt50_1 =>
      intro W' hSw
      try dsimp only at hSw
      go_simp
      first | done | with_reducible rfl
    simp only [Act.put, List.setIfInBounds_toArray, List.set_cons_zero, List.set_cons_succ]
    refine tkY 2 (some 48) rfl rfl (by kernel_rfl) (by kernel_rfl) (by kernel_rfl) (fun _ _ _ h => h) (by rfl) (v := ?tkvt51_2) ?tkyt51_2 (by assumption) rfl ?tkrt51_2
    case tkyt51_2 =>
      intro W' hSw
      try dsimp only at hSw
      go_simp
      first | done | with_reducible rfl
    simp only [Act.put, List.setIfInBounds_toArray, List.set_cons_zero, List.set_cons_succ]
    refine tkY 3 (some 49) rfl rfl (by kernel_rfl) (by kernel_rfl) (by kernel_rfl) (fun _ _ _ h => h) (by rfl) (v := ?tkvt52_3) ?tkyt52_3 (by assumption) rfl ?tkrt52_3
    case tkyt52_3 =>
      intro W' hSw
      try dsimp only at hSw
      go_simp
      first | done | with_reducible rfl
    simp only [Act.put, List.setIfInBounds_toArray, List.set_cons_zero, List.set_cons_succ]
    refine tkY 4 (some 50) rfl rfl (by kernel_rfl) (by kernel_rfl) (by kernel_rfl) (fun _ _ _ h => h) (by rfl) (v := ?tkvt53_4) ?tkyt53_4 (by assumption) rfl ?tkrt53_4
    case tkyt53_4 =>
      intro W' hSw
      try dsimp only at hSw
      go_simp
      first | done | with_reducible rfl
    simp only [Act.put, List.setIfInBounds_toArray, List.set_cons_zero, List.set_cons_succ]
    refine tkY 5 (some 51) rfl rfl (by kernel_rfl) (by kernel_rfl) (by kernel_rfl) (fun _ _ _ h => h) (by rfl) (v := ?tkvt54_5) ?tkyt54_5 (by assumption) rfl ?tkrt54_5
    case tkyt54_5 =>
      intro W' hSw
      try dsimp only at hSw
      go_simp
      first | done | with_reducible rfl
    simp only [Act.put, List.setIfInBounds_toArray, List.set_cons_zero, List.set_cons_succ]
    refine tkY 6 (some 52) rfl rfl (by kernel_rfl) (by kernel_rfl) (by kernel_rfl) (fun _ _ _ h => h) (by rfl) (v := ?tkvt55_6) ?tkyt55_6 (by assumption) rfl ?tkrt55_6
    case tkyt55_6 =>
      intro W' hSw
      try dsimp only at hSw
      go_simp
      first | done | with_reducible rfl
    simp only [Act.put, List.setIfInBounds_toArray, List.set_cons_zero, List.set_cons_succ]
    refine tkY 7 (some 53) rfl rfl (by kernel_rfl) (by kernel_rfl) (by kernel_rfl) (fun _ _ _ h => h) (by rfl) (v := ?tkvt56_7) ?tkyt56_7 (by assumption) rfl ?tkrt56_7
    case tkyt56_7 =>
      intro W' hSw
      try dsimp only at hSw
      go_simp
      first | done | with_reducible rfl
    simp only [Act.put, List.setIfInBounds_toArray, List.set_cons_zero, List.set_cons_succ]
    refine wpAnyH_ready (rs := [8]) (by kernel_rfl) (by simp) (AllReadyH.cons (at_drop rfl) (fun KC hKC => ?_) AllReadyH.nil)
    go_simp
    refine (marquetryref17_Right.calls k P0 q0 x.f0 P1 q1 x.f1 x.f2 x.f3 x.f4.f0 x.f4.f1 A2_0 c2_0 l2_0 A2_1 c2_1 l2_1 A2_2 c2_2 l2_2 _ _ hF8.g0 hF8.h0 hF8.g1 hF8.h1 (Kd.C_below hr2_0 hS8.below) hc2_0 (Kd.C_below hr2_1 hS8.below) hc2_1 (Kd.C_below hr2_2 hS8.below) hc2_2 HR.out).mono ?_
    rintro e w10 ⟨rfl, hB10⟩
    have hS10 := hS8.next hB10
    have hF10 := hF8.next hB10
    have k9_10 := blk_below k9d hB10
    refine hKC.out _ _ ⟨⟨hS10.cells.2.1, hS10.cells.2.2.1⟩, ⟨hF10.e0, hF10.e1, hF10.e2, hF10.e3, hF10.e4, hF10.e5⟩, blk_cell k9_10 0, blk_cell k9_10 1, blk_cell k9_10 2⟩ (fun hHeld => ?_)
    clear hKC KC
    try simp only [Act.put, List.setIfInBounds_toArray, List.set_cons_zero, List.set_cons_succ]
    refine tkY 9 (some 55) rfl rfl (by kernel_rfl) (by kernel_rfl) (by kernel_rfl) (fun _ _ _ h => h) (by rfl) (v := ?tkvt57_9) ?tkyt57_9 (by assumption) rfl ?tkrt57_9
    case tkyt57_9 =>
      intro W' hSw
      try dsimp only at hSw
      go_simp
      first | done | with_reducible rfl
    simp only [Act.put, List.setIfInBounds_toArray, List.set_cons_zero, List.set_cons_succ]
    refine tkY 10 (some 56) rfl rfl (by kernel_rfl) (by kernel_rfl) (by kernel_rfl) (fun _ _ _ h => h) (by rfl) (v := ?tkvt58_10) ?tkyt58_10 (by assumption) rfl ?tkrt58_10
    case tkyt58_10 =>
      intro W' hSw
      try dsimp only at hSw
      go_simp
      first | done | with_reducible rfl
    simp only [Act.put, List.setIfInBounds_toArray, List.set_cons_zero, List.set_cons_succ]
    refine tkY 11 (some 57) rfl rfl (by kernel_rfl) (by kernel_rfl) (by kernel_rfl) (fun _ _ _ h => h) (by rfl) (v := ?tkvt59_11) ?tkyt59_11 (by assumption) rfl ?tkrt59_11
    case tkyt59_11 =>
      intro W' hSw
      try dsimp only at hSw
      go_simp
      first | done | with_reducible rfl
    simp only [Act.put, List.setIfInBounds_toArray, List.set_cons_zero, List.set_cons_succ]
    refine tkY 12 (some 58) rfl rfl (by kernel_rfl) (by kernel_rfl) (by kernel_rfl) (fun _ _ _ h => h) (by rfl) (v := ?tkvt60_12) ?tkyt60_12 (by assumption) rfl ?tkrt60_12
    case tkyt60_12 =>
      intro W' hSw
      try dsimp only at hSw
      go_simp
      first | done | with_reducible rfl
    simp only [Act.put, List.setIfInBounds_toArray, List.set_cons_zero, List.set_cons_succ]
    refine tkY 13 (some 59) rfl rfl (by kernel_rfl) (by kernel_rfl) (by kernel_rfl) (fun _ _ _ h => h) (by rfl) (v := ?tkvt61_13) ?tkyt61_13 (by assumption) rfl ?tkrt61_13
    case tkyt61_13 =>
      intro W' hSw
      try dsimp only at hSw
      go_simp
      first | done | with_reducible rfl
    simp only [Act.put, List.setIfInBounds_toArray, List.set_cons_zero, List.set_cons_succ]
    refine tkY 14 (some 60) rfl rfl (by kernel_rfl) (by kernel_rfl) (by kernel_rfl) (fun _ _ _ h => h) (by rfl) (v := ?tkvt62_14) ?tkyt62_14 (by assumption) rfl ?tkrt62_14
    case tkyt62_14 =>
      intro W' hSw
      try dsimp only at hSw
      go_simp
      first | done | with_reducible rfl
    simp only [Act.put, List.setIfInBounds_toArray, List.set_cons_zero, List.set_cons_succ]
    refine tkY 15 (some 61) rfl rfl (by kernel_rfl) (by kernel_rfl) (by kernel_rfl) (fun _ _ _ h => h) (by rfl) (v := ?tkvt63_15) ?tkyt63_15 (by assumption) rfl ?tkrt63_15
    case tkyt63_15 =>
      intro W' hSw
      try dsimp only at hSw
      go_simp
      first | done | with_reducible rfl
    simp only [Act.put, List.setIfInBounds_toArray, List.set_cons_zero, List.set_cons_succ]
    refine tkY 16 (some 62) rfl rfl (by kernel_rfl) (by kernel_rfl) (by kernel_rfl) (fun _ _ _ h => h) (by rfl) (v := ?tkvt64_16) ?tkyt64_16 (by assumption) rfl ?tkrt64_16
    case tkyt64_16 =>
      intro W' hSw
      try dsimp only at hSw
      go_simp
      first | done | with_reducible rfl
    simp only [Act.put, List.setIfInBounds_toArray, List.set_cons_zero, List.set_cons_succ]
    refine tkY 17 (some 63) rfl rfl (by kernel_rfl) (by kernel_rfl) (by kernel_rfl) (fun _ _ _ h => h) (by rfl) (v := ?tkvt65_17) ?tkyt65_17 (by assumption) rfl ?tkrt65_17
    case tkyt65_17 =>
      intro W' hSw
      try dsimp only at hSw
      go_simp
      first | done | with_reducible rfl
    simp only [Act.put, List.setIfInBounds_toArray, List.set_cons_zero, List.set_cons_succ]
    refine tkY 18 (some 64) rfl rfl (by kernel_rfl) (by kernel_rfl) (by kernel_rfl) (fun _ _ _ h => h) (by rfl) (v := ?tkvt66_18) ?tkyt66_18 (by assumption) rfl ?tkrt66_18
    case tkyt66_18 =>
      intro W' hSw
      try dsimp only at hSw
      go_simp
      first | done | with_reducible rfl
    simp only [Act.put, List.setIfInBounds_toArray, List.set_cons_zero, List.set_cons_succ]
    refine tkY 19 (some 65) rfl rfl (by kernel_rfl) (by kernel_rfl) (by kernel_rfl) (fun _ _ _ h => h) (by rfl) (v := ?tkvt67_19) ?tkyt67_19 (by assumption) rfl ?tkrt67_19
    case tkyt67_19 =>
      intro W' hSw
      try dsimp only at hSw
      go_simp
      first | done | with_reducible rfl
    simp only [Act.put, List.setIfInBounds_toArray, List.set_cons_zero, List.set_cons_succ]
    refine tkY 20 (some 66) rfl rfl (by kernel_rfl) (by kernel_rfl) (by kernel_rfl) (fun _ _ _ h => h) (by rfl) (v := ?tkvt68_20) ?tkyt68_20 (by assumption) rfl ?tkrt68_20
    case tkyt68_20 =>
      intro W' hSw
      try dsimp only at hSw
      go_simp
      first | done | with_reducible rfl
    simp only [Act.put, List.setIfInBounds_toArray, List.set_cons_zero, List.set_cons_succ]
    refine tkY 22 (some 68) rfl rfl (by kernel_rfl) (by kernel_rfl) (by kernel_rfl) (fun _ _ _ h => h) (by rfl) (v := ?tkvt69_22) ?tkyt69_22 (by assumption) rfl ?tkrt69_22
    case tkyt69_22 =>
      intro W' hSw
      try dsimp only at hSw
      go_simp
      first | done | with_reducible rfl
    simp only [Act.put, List.setIfInBounds_toArray, List.set_cons_zero, List.set_cons_succ]
    refine tkY 23 (some 69) rfl rfl (by kernel_rfl) (by kernel_rfl) (by kernel_rfl) (fun _ _ _ h => h) (by rfl) (v := ?tkvt70_23) ?tkyt70_23 (by assumption) rfl ?tkrt70_23
    case tkyt70_23 =>
      intro W' hSw
      try dsimp only at hSw
      go_simp
      first | done | with_reducible rfl
    simp only [Act.put, List.setIfInBounds_toArray, List.set_cons_zero, List.set_cons_succ]
    refine wpAnyH_ready (rs := [21]) (by kernel_rfl) (by simp) (AllReadyH.cons (at_drop rfl) (fun KC hKC => ?_) AllReadyH.nil)
    go_simp
    refine (shred_Rows.calls A2_0 c2_0 l2_0 A2_1 c2_1 l2_1 A2_2 c2_2 l2_2 n1 _ (Kd.C_below hr2_0 hS10.below) hc2_0 (Kd.C_below hr2_1 hS10.below) hc2_1 (Kd.C_below hr2_2 hS10.below) hc2_2 HN1.out).mono ?_
    rintro e w11 ⟨rfl, hB11⟩
    have hS11 := hS10.next hB11
    have hF11 := hF10.next hB11
    have k9_11 := blk_below k9_10 hB11
    refine hKC.out _ _ ⟨⟨hS11.cells.2.1, hS11.cells.2.2.1⟩, ⟨hF11.e0, hF11.e1, hF11.e2, hF11.e3, hF11.e4, hF11.e5⟩, blk_cell k9_11 0, blk_cell k9_11 1, blk_cell k9_11 2⟩ (fun hHeld => ?_)
    clear hKC KC
    try simp only [Act.put, List.setIfInBounds_toArray, List.set_cons_zero, List.set_cons_succ]
    refine wpAnyH_ready (rs := [24]) (by kernel_rfl) (by simp) (AllReadyH.cons (at_drop rfl) (fun KC hKC => ?_) AllReadyH.nil)
    go_simp
    refine (marquetryref17_Rows.calls k A2_0 c2_0 l2_0 A2_1 c2_1 l2_1 A2_2 c2_2 l2_2 n1 _ (Kd.C_below hr2_0 hS11.below) hc2_0 (Kd.C_below hr2_1 hS11.below) hc2_1 (Kd.C_below hr2_2 hS11.below) hc2_2 HN2.out).mono ?_
    rintro e w12 ⟨rfl, hB12⟩
    have hS12 := hS11.next hB12
    have hF12 := hF11.next hB12
    have k9_12 := blk_below k9_11 hB12
    refine hKC.out _ _ ⟨⟨hS12.cells.2.1, hS12.cells.2.2.1⟩, ⟨hF12.e0, hF12.e1, hF12.e2, hF12.e3, hF12.e4, hF12.e5⟩, blk_cell k9_12 0, blk_cell k9_12 1, blk_cell k9_12 2⟩ (fun hHeld => ?_)
    clear hKC KC
    try simp only [Act.put, List.setIfInBounds_toArray, List.set_cons_zero, List.set_cons_succ]
    refine tkY 25 (some 71) rfl rfl (by kernel_rfl) (by kernel_rfl) (by kernel_rfl) (fun _ _ _ h => h) (by rfl) (v := ?tkvt71_25) ?tkyt71_25 (by assumption) rfl ?tkrt71_25
    case tkyt71_25 =>
      intro W' hSw
      try dsimp only at hSw
      go_simp
      first | done | with_reducible rfl
    simp only [Act.put, List.setIfInBounds_toArray, List.set_cons_zero, List.set_cons_succ]
    refine tkY 26 (some 72) rfl rfl (by kernel_rfl) (by kernel_rfl) (by kernel_rfl) (fun _ _ _ h => h) (by rfl) (v := ?tkvt72_26) ?tkyt72_26 (by assumption) rfl ?tkrt72_26
    case tkyt72_26 =>
      intro W' hSw
      try dsimp only at hSw
      go_simp
      first | done | with_reducible rfl
    simp only [Act.put, List.setIfInBounds_toArray, List.set_cons_zero, List.set_cons_succ]
    refine tkY 27 (some 73) rfl rfl (by kernel_rfl) (by kernel_rfl) (by kernel_rfl) (fun _ _ _ h => h) (by rfl) (v := ?tkvt73_27) ?tkyt73_27 (by assumption) rfl ?tkrt73_27
    case tkyt73_27 =>
      intro W' hSw
      try dsimp only at hSw
      go_simp
      first | done | with_reducible rfl
    simp only [Act.put, List.setIfInBounds_toArray, List.set_cons_zero, List.set_cons_succ]
    refine tkY 28 (some 74) rfl rfl (by kernel_rfl) (by kernel_rfl) (by kernel_rfl) (fun _ _ _ h => h) (by rfl) (v := ?tkvt74_28) ?tkyt74_28 (by assumption) rfl ?tkrt74_28
    case tkyt74_28 =>
      intro W' hSw
      try dsimp only at hSw
      go_simp
      first | done | with_reducible rfl
    simp only [Act.put, List.setIfInBounds_toArray, List.set_cons_zero, List.set_cons_succ]
    refine tkY 29 (some 75) rfl rfl (by kernel_rfl) (by kernel_rfl) (by kernel_rfl) (fun _ _ _ h => h) (by rfl) (v := ?tkvt75_29) ?tkyt75_29 (by assumption) rfl ?tkrt75_29
    case tkyt75_29 =>
      intro W' hSw
      try dsimp only at hSw
      go_simp
      first | done | with_reducible rfl
    simp only [Act.put, List.setIfInBounds_toArray, List.set_cons_zero, List.set_cons_succ]
    refine tkY 30 (some 76) rfl rfl (by kernel_rfl) (by kernel_rfl) (by kernel_rfl) (fun _ _ _ h => h) (by rfl) (v := ?tkvt76_30) ?tkyt76_30 (by assumption) rfl ?tkrt76_30
    case tkyt76_30 =>
      intro W' hSw
      try dsimp only at hSw
      go_simp
      first | done | with_reducible rfl
    simp only [Act.put, List.setIfInBounds_toArray, List.set_cons_zero, List.set_cons_succ]
    refine tkY 31 (some 77) rfl rfl (by kernel_rfl) (by kernel_rfl) (by kernel_rfl) (fun _ _ _ h => h) (by rfl) (v := ?tkvt77_31) ?tkyt77_31 (by assumption) rfl ?tkrt77_31
    case tkyt77_31 =>
      intro W' hSw
      try dsimp only at hSw
      go_simp
      first | done | with_reducible rfl
    simp only [Act.put, List.setIfInBounds_toArray, List.set_cons_zero, List.set_cons_succ]
    refine tkY 33 (some 79) rfl rfl (by kernel_rfl) (by kernel_rfl) (by kernel_rfl) (fun _ _ _ h => h) (by rfl) (v := ?tkvt78_33) ?tkyt78_33 (by assumption) rfl ?tkrt78_33
    case tkyt78_33 =>
      intro W' hSw
      try dsimp only at hSw
      go_simp
      first | done | with_reducible rfl
    simp only [Act.put, List.setIfInBounds_toArray, List.set_cons_zero, List.set_cons_succ]
    refine tkY 34 (some 80) rfl rfl (by kernel_rfl) (by kernel_rfl) (by kernel_rfl) (fun _ _ _ h => h) (by rfl) (v := ?tkvt79_34) ?tkyt79_34 (by assumption) rfl ?tkrt79_34
    case tkyt79_34 =>
      intro W' hSw
      try dsimp only at hSw
      go_simp
      first | done | with_reducible rfl
    simp only [Act.put, List.setIfInBounds_toArray, List.set_cons_zero, List.set_cons_succ]
    refine tkY 35 (some 81) rfl rfl (by kernel_rfl) (by kernel_rfl) (by kernel_rfl) (fun _ _ _ h => h) (by rfl) (v := ?tkvt80_35) ?tkyt80_35 (by assumption) rfl ?tkrt80_35
    case tkyt80_35 =>
      intro W' hSw
      try dsimp only at hSw
      go_simp
      first | done | with_reducible rfl
    simp only [Act.put, List.setIfInBounds_toArray, List.set_cons_zero, List.set_cons_succ]
    refine tkY 36 (some 82) rfl rfl (by kernel_rfl) (by kernel_rfl) (by kernel_rfl) (fun _ _ _ h => h) (by rfl) (v := ?tkvt81_36) ?tkyt81_36 (by assumption) rfl ?tkrt81_36
    case tkyt81_36 =>
      intro W' hSw
      try dsimp only at hSw
      go_simp
      first | done | with_reducible rfl
    simp only [Act.put, List.setIfInBounds_toArray, List.set_cons_zero, List.set_cons_succ]
    refine wpAnyH_ready (rs := [32]) (by kernel_rfl) (by simp) (AllReadyH.cons (at_drop rfl) (fun KC hKC => ?_) AllReadyH.nil)
    go_simp
    refine (shred_Same.calls A2_0 c2_0 l2_0 A2_1 c2_1 l2_1 A2_2 c2_2 l2_2 A2_3 c2_3 l2_3 A2_4 c2_4 l2_4 A2_5 c2_5 l2_5 s1' _ (Kd.C_below hr2_0 hS12.below) hc2_0 (Kd.C_below hr2_1 hS12.below) hc2_1 (Kd.C_below hr2_2 hS12.below) hc2_2 (Kd.C_below hr2_3 hS12.below) hc2_3 (Kd.C_below hr2_4 hS12.below) hc2_4 (Kd.C_below hr2_5 hS12.below) hc2_5 HS1.out).mono ?_
    rintro e w13 ⟨rfl, hB13⟩
    have hS13 := hS12.next hB13
    have hF13 := hF12.next hB13
    have k9_13 := blk_below k9_12 hB13
    refine hKC.out _ _ ⟨⟨hS13.cells.2.1, hS13.cells.2.2.1⟩, ⟨hF13.e0, hF13.e1, hF13.e2, hF13.e3, hF13.e4, hF13.e5⟩, blk_cell k9_13 0, blk_cell k9_13 1, blk_cell k9_13 2⟩ (fun hHeld => ?_)
    clear hKC KC
    try simp only [Act.put, List.setIfInBounds_toArray, List.set_cons_zero, List.set_cons_succ]
    refine wpAnyH_ready (rs := [37]) (by kernel_rfl) (by simp) (AllReadyH.cons (at_drop rfl) (fun KC hKC => ?_) AllReadyH.nil)
    go_simp
    refine (marquetryref17_SameColumn.calls k A2_0 c2_0 l2_0 A2_1 c2_1 l2_1 A2_2 c2_2 l2_2 A2_3 c2_3 l2_3 A2_4 c2_4 l2_4 A2_5 c2_5 l2_5 s1' _ (Kd.C_below hr2_0 hS13.below) hc2_0 (Kd.C_below hr2_1 hS13.below) hc2_1 (Kd.C_below hr2_2 hS13.below) hc2_2 (Kd.C_below hr2_3 hS13.below) hc2_3 (Kd.C_below hr2_4 hS13.below) hc2_4 (Kd.C_below hr2_5 hS13.below) hc2_5 HS2.out).mono ?_
    rintro e w14 ⟨rfl, hB14⟩
    have hS14 := hS13.next hB14
    have hF14 := hF13.next hB14
    have k9_14 := blk_below k9_13 hB14
    refine hKC.out _ _ ⟨⟨hS14.cells.2.1, hS14.cells.2.2.1⟩, ⟨hF14.e0, hF14.e1, hF14.e2, hF14.e3, hF14.e4, hF14.e5⟩, blk_cell k9_14 0, blk_cell k9_14 1, blk_cell k9_14 2⟩ (fun hHeld => ?_)
    clear hKC KC
    try simp only [Act.put, List.setIfInBounds_toArray, List.set_cons_zero, List.set_cons_succ]
    refine tkY 38 (some 84) rfl rfl (by kernel_rfl) (by kernel_rfl) (by kernel_rfl) (fun _ _ _ h => h) (by rfl) (v := ?tkvt82_38) ?tkyt82_38 (by assumption) rfl ?tkrt82_38
    case tkyt82_38 =>
      intro W' hSw
      try dsimp only at hSw
      go_simp
      first | done | with_reducible rfl
    simp only [Act.put, List.setIfInBounds_toArray, List.set_cons_zero, List.set_cons_succ]
    refine tkY 39 (some 85) rfl rfl (by kernel_rfl) (by kernel_rfl) (by kernel_rfl) (fun _ _ _ h => h) (by rfl) (v := ?tkvt83_39) ?tkyt83_39 (by assumption) rfl ?tkrt83_39
    case tkyt83_39 =>
      intro W' hSw
      try dsimp only at hSw
      go_simp
      first | done | with_reducible rfl
    simp only [Act.put, List.setIfInBounds_toArray, List.set_cons_zero, List.set_cons_succ]
    refine tkY 40 (some 86) rfl rfl (by kernel_rfl) (by kernel_rfl) (by kernel_rfl) (fun _ _ _ h => h) (by rfl) (v := ?tkvt84_40) ?tkyt84_40 (by assumption) rfl ?tkrt84_40
    case tkyt84_40 =>
      intro W' hSw
      try dsimp only at hSw
      go_simp
      first | done | with_reducible rfl
    simp only [Act.put, List.setIfInBounds_toArray, List.set_cons_zero, List.set_cons_succ]
    refine tkY 41 (some 87) rfl rfl (by kernel_rfl) (by kernel_rfl) (by kernel_rfl) (fun _ _ _ h => h) (by rfl) (v := ?tkvt85_41) ?tkyt85_41 (by assumption) rfl ?tkrt85_41
    case tkyt85_41 =>
      intro W' hSw
      try dsimp only at hSw
      go_simp
      first | done | with_reducible rfl
    simp only [Act.put, List.setIfInBounds_toArray, List.set_cons_zero, List.set_cons_succ]
    refine tkY 42 (some 88) rfl rfl (by kernel_rfl) (by kernel_rfl) (by kernel_rfl) (fun _ _ _ h => h) (by rfl) (v := ?tkvt86_42) ?tkyt86_42 (by assumption) rfl ?tkrt86_42
    case tkyt86_42 =>
      intro W' hSw
      try dsimp only at hSw
      go_simp
      first | done | with_reducible rfl
    simp only [Act.put, List.setIfInBounds_toArray, List.set_cons_zero, List.set_cons_succ]
    refine tkY 43 (some 89) rfl rfl (by kernel_rfl) (by kernel_rfl) (by kernel_rfl) (fun _ _ _ h => h) (by rfl) (v := ?tkvt87_43) ?tkyt87_43 (by assumption) rfl ?tkrt87_43
    case tkyt87_43 =>
      intro W' hSw
      try dsimp only at hSw
      go_simp
      first | done | with_reducible rfl
    simp only [Act.put, List.setIfInBounds_toArray, List.set_cons_zero, List.set_cons_succ]
    refine wpAnyH_ready (rs := [44]) (by kernel_rfl) (by simp) (AllReadyH.cons (at_drop rfl) (fun KC hKC => ?_) AllReadyH.nil)
    go_simp
    refine (marquetryref17_SameColumn.calls k D0 d0 p0 D1 d1 p1 D2 d2 p2 A2_0 c2_0 l2_0 A2_1 c2_1 l2_1 A2_2 c2_2 l2_2 true _ (Kd.C_below C0 (below_step (below_step (below_step (below_step hB10 hB11) hB12) hB13) hB14)) hd0 (Kd.C_below C1 (below_step (below_step (below_step (below_step hB10 hB11) hB12) hB13) hB14)) hd1 (Kd.C_below C2 (below_step (below_step (below_step (below_step hB10 hB11) hB12) hB13) hB14)) hd2 (Kd.C_below hr2_0 hS14.below) hc2_0 (Kd.C_below hr2_1 hS14.below) hc2_1 (Kd.C_below hr2_2 hS14.below) hc2_2 HS3.out).mono ?_
    rintro e w15 ⟨rfl, hB15⟩
    have hS15 := hS14.next hB15
    have hF15 := hF14.next hB15
    have k9_15 := blk_below k9_14 hB15
    refine hKC.out _ _ ⟨⟨hS15.cells.2.1, hS15.cells.2.2.1⟩, ⟨hF15.e0, hF15.e1, hF15.e2, hF15.e3, hF15.e4, hF15.e5⟩, blk_cell k9_15 0, blk_cell k9_15 1, blk_cell k9_15 2⟩ (fun hHeld => ?_)
    clear hKC KC
    try simp only [Act.put, List.setIfInBounds_toArray, List.set_cons_zero, List.set_cons_succ]
    refine tkY 45 (some 91) rfl rfl (by kernel_rfl) (by kernel_rfl) (by kernel_rfl) (fun _ _ _ h => h) (by rfl) (v := ?tkvt88_45) ?tkyt88_45 (by assumption) rfl ?tkrt88_45
    case tkyt88_45 =>
      intro W' hSw
      try dsimp only at hSw
      go_simp
      first | done | with_reducible rfl
    simp only [Act.put, List.setIfInBounds_toArray, List.set_cons_zero, List.set_cons_succ]
    refine tkY 46 (some 6) rfl rfl (by kernel_rfl) (by kernel_rfl) (by kernel_rfl) (fun _ _ _ h => h) (by rfl) (v := ?tkvt89_46) ?tkyt89_46 (by assumption) rfl ?tkrt89_46
    case tkyt89_46 =>
      intro W' hSw
      try dsimp only at hSw
      go_simp
      first | done | with_reducible rfl
    simp only [Act.put, List.setIfInBounds_toArray, List.set_cons_zero, List.set_cons_succ]
    refine wpAnyH_done (by kernel_rfl) ?_ _
    go_wp2_with fail
    go_ret
    exact ⟨rfl, hS15.below⟩


end Go.Proofs.Yteokhlpleimnbaa.H
end
