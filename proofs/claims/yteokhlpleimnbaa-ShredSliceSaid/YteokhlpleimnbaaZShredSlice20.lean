/- Texts of the claim, packed: H47, H40. -/
import Derived.BigRegion
import Derived.Deep.Cut
import Derived.Deep.RegionHeld3
import Derived.Deep.RegionWith
import Derived.Lib.Hide
import Derived.Test.YteokhlpleimnbaaZShredSlice5
import Derived.Test.YteokhlpleimnbaaZShredSlice6
import Derived.Test.YteokhlpleimnbaaZShredSlice7
import Derived.Test.YteokhlpleimnbaaZShredSlice11
import Derived.Test.YteokhlpleimnbaaZShredSlice13
import Derived.Test.YteokhlpleimnbaaZShredSlice16
import Derived.Test.YteokhlpleimnbaaZShredSlice17
import Derived.Test.YteokhlpleimnbaaZShredSlice18
import Derived.Test.YteokhlpleimnbaaZShredSlice19
section
-- Laid by this session's hprint.py, out of the kit's print.py and texts of the session. Not trusted: Lean checks it.
namespace Go.Proofs.Yteokhlpleimnbaa.H
open Go.RowKit Go.Proofs.YteokhlpleimnbaaW.PrintWords Go.Proofs.YteokhlpleimnbaaW.PrintLast Go.Proofs.YteokhlpleimnbaaW.PrintMore
attribute [local go_sem] max2_int min2_int max_two min_two max_three min_three max_four min_four
set_option linter.unusedVariables false
set_option linter.unusedSimpArgs false

-- OVPART Derived.Lib.Hide Derived.Deep.RegionHeld3 Derived.BigRegion Derived.Deep.RegionWith Derived.Deep.Cut
structure Lw_ (w W : World) (s0 s1 y0 y1 y2 y3 y4 y5 y6 y7 : Value) : Prop where
 b0 : W.heap[w.heap.size]? = some (.cells #[s0, s1] 24 (0, 0))
 b1 : W.heap[w.heap.size + 1]? = some (.cells #[y0, y1, y2, y3, y4, y5, y6, y7] 30 (0, 0))
 below : Below w.heap.size w W
theorem Lw_.next {w W : World} {s0 s1 y0 y1 y2 y3 y4 y5 y6 y7 : Value} {W' : World} (h : Lw_ w W s0 s1 y0 y1 y2 y3 y4 y5 y6 y7) (hb : Below W.heap.size W W') : Lw_ w W' s0 s1 y0 y1 y2 y3 y4 y5 y6 y7 := ⟨blk_below h.b0 hb, blk_below h.b1 hb, below_step h.below hb⟩
theorem Lw_.drew {w W : World} {s0 s1 y0 y1 y2 y3 y4 y5 y6 y7 : Value} (h : Lw_ w W s0 s1 y0 y1 y2 y3 y4 y5 y6 y7) : Lw_ w W.drew s0 s1 y0 y1 y2 y3 y4 y5 y6 y7 := ⟨h.b0, h.b1, h.below.drew⟩
theorem Lw_.start (w : World) (s0 s1 y0 y1 y2 y3 y4 y5 y6 y7 : Value) : Lw_ w ((w.alloc (.cells #[s0, s1] 24)).alloc (.cells #[y0, y1, y2, y3, y4, y5, y6, y7] 30)) s0 s1 y0 y1 y2 y3 y4 y5 y6 y7 := by
 have h1 := blk_new (w.alloc (.cells #[s0, s1] 24)) (.cells #[y0, y1, y2, y3, y4, y5, y6, y7] 30)
 rw [World.size_alloc] at h1
 exact ⟨blk_alloc (blk_new w _) _, h1, below_alloc (below_alloc (Below.refl _ _) _) _⟩
theorem Lw_.cells {w W : World} {s0 s1 y0 y1 y2 y3 y4 y5 y6 y7 : Value} (h : Lw_ w W s0 s1 y0 y1 y2 y3 y4 y5 y6 y7) : (W.cell? ⟨w.heap.size, 0, none⟩ = some s0 ∧ W.cell? ⟨w.heap.size, 1, none⟩ = some s1) ∧ (W.cell? ⟨w.heap.size + 1, 0, none⟩ = some y0 ∧ W.cell? ⟨w.heap.size + 1, 1, none⟩ = some y1 ∧ W.cell? ⟨w.heap.size + 1, 2, none⟩ = some y2) ∧ (W.cell? ⟨w.heap.size + 1, 3, none⟩ = some y3 ∧ W.cell? ⟨w.heap.size + 1, 4, none⟩ = some y4 ∧ W.cell? ⟨w.heap.size + 1, 5, none⟩ = some y5) ∧ (W.cell? ⟨w.heap.size + 1, 6, none⟩ = some y6 ∧ W.cell? ⟨w.heap.size + 1, 7, none⟩ = some y7) :=
 ⟨⟨blk_cell h.b0 0, blk_cell h.b0 1⟩, ⟨blk_cell h.b1 0, blk_cell h.b1 1, blk_cell h.b1 2⟩, ⟨blk_cell h.b1 3, blk_cell h.b1 4, blk_cell h.b1 5⟩, blk_cell h.b1 6, blk_cell h.b1 7⟩
structure LfAt_ (W : World) (ad : Addr) (x : S44) (A0 : Option Addr) (c0 : Nat) (A1 : Option Addr) (c1 : Nat) : Prop where
 e0 : W.cell? ad = some (.slice A0 x.f0.length c0)
 e1 : W.cell? ⟨ad.block, ad.off + 1, none⟩ = some (.slice A1 x.f1.length c1)
 e2 : W.cell? ⟨ad.block, ad.off + 2, none⟩ = some (.int .i64 x.f2)
 e3 : W.cell? ⟨ad.block, ad.off + 3, none⟩ = some (.int .i64 x.f3)
 e4 : W.cell? ⟨ad.block, ad.off + 4, none⟩ = some (.int .i64 x.f4.f0)
 e5 : W.cell? ⟨ad.block, ad.off + 5, none⟩ = some (.int .i64 x.f4.f1)
 h0 : x.f0.length ≤ c0
 g0 : Kd.C Kd.string W A0 x.f0.length x.f0
 h1 : x.f1.length ≤ c1
 g1 : Kd.C (Kd.int .i64) W A1 x.f1.length x.f1
theorem LfAt_.next {W W' : World} {ad : Addr} {x : S44} {A0 : Option Addr} {c0 : Nat} {A1 : Option Addr} {c1 : Nat} (h : LfAt_ W ad x A0 c0 A1 c1) (hb : Below W.heap.size W W') : LfAt_ W' ad x A0 c0 A1 c1 :=
 ⟨pw_cell_below hb h.e0, pw_cell_below hb h.e1, pw_cell_below hb h.e2, pw_cell_below hb h.e3, pw_cell_below hb h.e4, pw_cell_below hb h.e5, h.h0, Kd.C_below h.g0 hb, h.h1, Kd.C_below h.g1 hb⟩
theorem LfAt_.drew {W : World} {ad : Addr} {x : S44} {A0 : Option Addr} {c0 : Nat} {A1 : Option Addr} {c1 : Nat} (h : LfAt_ W ad x A0 c0 A1 c1) : LfAt_ W.drew ad x A0 c0 A1 c1 := h.next (below_drew (Below.refl _ _))
theorem lf_at {W : World} {A : Option Addr} {L : List S44} (h : Kd.C k44 W A L.length L) (i : Nat) (hi : i < L.length) : ∃ ad A0 c0 A1 c1, A = some ad ∧ LfAt_ W (ad.add (i * 6)) (rd_T44 L (i : Int)) A0 c0 A1 c1 := by
 obtain ⟨ad, A0, c0, A1, c1, e, q0, q1, q2, q3, q4, q5, h0, g0, h1, g1⟩ := at_T44 h (i : Int) (by omega) (by omega)
 rw [Int.toNat_natCast] at q0 q1 q2 q3 q4 q5
 exact ⟨ad, A0, c0, A1, c1, e, ⟨q0, q1, q2, q3, q4, q5, h0, g0, h1, g1⟩⟩
end Go.Proofs.Yteokhlpleimnbaa.H
end
section
namespace Go.Proofs.Yteokhlpleimnbaa.H
open Go.RowKit Go.Proofs.YteokhlpleimnbaaW.PrintWords Go.Proofs.YteokhlpleimnbaaW.PrintLast Go.Proofs.YteokhlpleimnbaaW.PrintMore
attribute [local go_sem] max2_int min2_int max_two min_two max_three min_three max_four min_four
set_option linter.unusedVariables false
set_option linter.unusedSimpArgs false

def l18_ShredSlice.z (k : Nat) (c : List Int × List Int × List S58 × Int) (no : Int) : Option Bool := (r17_SameColumn.f k c.1 c.2.1 c.2.2.1 [] [] []).bind fun s => if s = true ∧ c.2.2.2 = no then some true else none
def l18_ShredSlice.g (k : Nat) (x : S44) (l2_0 l2_1 : List Int) (l2_2 : List S58) (l2_3 l2_4 : List Int) (l2_5 : List S58) (a2_6 a2_7 : Int) : Option Bool :=
 (shred_Slice.f l2_0 l2_1 l2_2 a2_6 a2_7 x.f0 x.f1 x.f2 x.f3 x.f4.f0 x.f4.f1).bind fun c => (r17_Right.f k x.f0 x.f1 x.f2 x.f3 x.f4.f0 x.f4.f1 l2_0 l2_1 l2_2).bind fun r =>
  if r = false then l18_ShredSlice.z k c 280 else if a2_6 < 0 then l18_ShredSlice.z k c 4 else if a2_7 < a2_6 then l18_ShredSlice.z k c 4 else
   (r17_Rows.f k l2_0 l2_1 l2_2).bind fun n => if a2_7 > n then l18_ShredSlice.z k c 4 else
    (r17_Slice.f k l2_0 l2_1 l2_2 a2_6 a2_7 x.f0 x.f1 x.f2 x.f3 x.f4.f0 x.f4.f1).bind fun d => (r17_SameColumn.f k c.1 c.2.1 c.2.2.1 d.1 d.2.1 d.2.2).bind fun s => if c.2.2.2 = 0 ∧ s = true then some true else none
def l18_ShredSlice.f (k : Nat) (a0_0 : ByteArray) (l0_1 : List S56) (a1 : Int) (l2_0 l2_1 : List Int) (l2_2 : List S58) (l2_3 l2_4 : List Int) (l2_5 : List S58) (a2_6 a2_7 : Int) : Option Bool :=
 (r16_Leaves.f k a0_0 l0_1).bind fun L => (r16_Count.f k l0_1).bind fun n => if n > 40 then some true else
  (l18_vast.f k l2_0 l2_1 l2_2).bind fun va => if va = true then some true else (if a1 < 0 then some true else if a1 ≥ (L.length : Int) then some true else l18_ShredSlice.g k (rd_T44 L a1) l2_0 l2_1 l2_2 l2_3 l2_4 l2_5 a2_6 a2_7)
set_option maxHeartbeats 8000000 in
set_option maxRecDepth 100000 in
theorem l18_ShredSlice.calls (k : Nat) (a0_0 : ByteArray) (A0_1 : Option Addr) (c0_1 : Nat) (l0_1 : List (S56)) (a1 : Int) (A2_0 : Option Addr) (c2_0 : Nat) (l2_0 : List Int) (A2_1 : Option Addr) (c2_1 : Nat) (l2_1 : List Int) (A2_2 : Option Addr) (c2_2 : Nat) (l2_2 : List (S58)) (A2_3 : Option Addr) (c2_3 : Nat) (l2_3 : List Int) (A2_4 : Option Addr) (c2_4 : Nat) (l2_4 : List Int) (A2_5 : Option Addr) (c2_5 : Nat) (l2_5 : List (S58)) (a2_6 : Int) (a2_7 : Int) (r : Bool) (w : World) (hr0_1 : Kd.C k56 w A0_1 l0_1.length l0_1) (hc0_1 : l0_1.length ≤ c0_1) (hr2_0 : Kd.C (Kd.int .i64) w A2_0 l2_0.length l2_0) (hc2_0 : l2_0.length ≤ c2_0) (hr2_1 : Kd.C (Kd.int .i64) w A2_1 l2_1.length l2_1) (hc2_1 : l2_1.length ≤ c2_1) (hr2_2 : Kd.C k58 w A2_2 l2_2.length l2_2) (hc2_2 : l2_2.length ≤ c2_2) (hr2_3 : Kd.C (Kd.int .i64) w A2_3 l2_3.length l2_3) (hc2_3 : l2_3.length ≤ c2_3) (hr2_4 : Kd.C (Kd.int .i64) w A2_4 l2_4.length l2_4) (hc2_4 : l2_4.length ≤ c2_4) (hr2_5 : Kd.C k58 w A2_5 l2_5.length l2_5) (hc2_5 : l2_5.length ≤ c2_5) (h : l18_ShredSlice.f k a0_0 l0_1 a1 l2_0 l2_1 l2_2 l2_3 l2_4 l2_5 a2_6 a2_7 = some r) :
  Calls Try.prog 3 #[.agg #[.string a0_0, .slice A0_1 l0_1.length c0_1], .int .i64 a1, .agg #[.slice A2_0 l2_0.length c2_0, .slice A2_1 l2_1.length c2_1, .slice A2_2 l2_2.length c2_2, .slice A2_3 l2_3.length c2_3, .slice A2_4 l2_4.length c2_4, .slice A2_5 l2_5.length c2_5, .int .i64 a2_6, .int .i64 a2_7]] w fun e w' => e = .returned (.bool r) ∧ Below w.heap.size w w' := by
 unfold l18_ShredSlice.f at h
 obtain ⟨L, hL, h1⟩ := Option.bind_eq_some_iff.mp h
 obtain ⟨n, hn, h2⟩ := Option.bind_eq_some_iff.mp h1
 clear h h1
 have HL := Lib.hid hL
 have HN := Lib.hid hn
 clear hL hn
 have hS := Lw_.start w (.string a0_0) (.slice A0_1 l0_1.length c0_1) (.slice A2_0 l2_0.length c2_0) (.slice A2_1 l2_1.length c2_1) (.slice A2_2 l2_2.length c2_2) (.slice A2_3 l2_3.length c2_3) (.slice A2_4 l2_4.length c2_4) (.slice A2_5 l2_5.length c2_5) (.int .i64 a2_6) (.int .i64 a2_7)
 go_enter Try.func3, Try.ntmps3
 go_wp2_with fail
 refine (r16_Leaves.calls k a0_0 A0_1 c0_1 l0_1 L _ (Kd.C_below hr0_1 hS.below) hc0_1 HL.out).mono ?_
 rintro e w1 ⟨v7, rfl, N7, hB1⟩
 have hS1 := hS.next hB1
 obtain ⟨A7, c7, rfl, hc7, C7⟩ := Kd.N_reads N7
 clear hB1 hS N7 HL
 obtain ⟨⟨s0, s1⟩, ⟨y0, y1, y2⟩, ⟨y3, y4, y5⟩, y6, y7⟩ := hS1.cells
 go_wp2_with fail
 refine (r16_Count.calls k A0_1 c0_1 l0_1 n _ (Kd.C_below hr0_1 hS1.below) hc0_1 HN.out).mono ?_
 rintro e w2 ⟨rfl, hD2⟩
 have hS2 := hS1.next hD2.below
 replace C7 := Kd.C_below C7 hD2.below
 clear hD2 hS1 HN s0 s1 y0 y1 y2 y3 y4 y5 y6 y7
 obtain ⟨⟨s0, s1⟩, ⟨y0, y1, y2⟩, ⟨y3, y4, y5⟩, y6, y7⟩ := hS2.cells
 by_cases hbig : n > 40
 ·rw [if_pos hbig] at h2
  obtain rfl := Option.some.inj h2
  have hnb : decide (n > 40) = true := decide_eq_true hbig
  clear hbig
  go_wp2_with fail
  go_ret
  exact ⟨rfl, hS2.below⟩
 rw [if_neg hbig] at h2
 have hnb : decide (n > 40) = false := decide_eq_false hbig
 clear hbig
 obtain ⟨va, hva, h3⟩ := Option.bind_eq_some_iff.mp h2
 clear h2
 have HVA := Lib.hid hva
 clear hva
 go_wp2_with fail
 refine (l18_vast.calls k A2_0 c2_0 l2_0 A2_1 c2_1 l2_1 A2_2 c2_2 l2_2 va _ (Kd.C_below hr2_0 hS2.below) hc2_0 (Kd.C_below hr2_1 hS2.below) hc2_1 (Kd.C_below hr2_2 hS2.below) hc2_2 HVA.out).mono ?_
 rintro e w3 ⟨rfl, hB3⟩
 have hS3 := hS2.next hB3
 replace C7 := Kd.C_below C7 hB3
 clear hB3 hS2 HVA s0 s1 y0 y1 y2 y3 y4 y5 y6 y7 hnb
 obtain ⟨⟨s0, s1⟩, ⟨y0, y1, y2⟩, ⟨y3, y4, y5⟩, y6, y7⟩ := hS3.cells
 by_cases hvb : va = true
 ·rw [if_pos hvb] at h3
  subst hvb
  obtain rfl := Option.some.inj h3
  go_wp2_with fail
  go_ret
  exact ⟨rfl, hS3.below⟩
 rw [if_neg hvb] at h3
 obtain rfl : va = false := by simpa using hvb
 clear hvb
 by_cases k0 : a1 < 0
 ·rw [if_pos k0] at h3
  obtain rfl := Option.some.inj h3
  have k0b : decide (a1 < 0) = true := decide_eq_true k0
  clear k0
  go_wp2_with fail
  go_ret
  exact ⟨rfl, hS3.below⟩
 rw [if_neg k0] at h3
 have k0b : decide (a1 < 0) = false := decide_eq_false k0
 by_cases k1 : a1 ≥ (L.length : Int)
 ·rw [if_pos k1] at h3
  obtain rfl := Option.some.inj h3
  have k1b : decide (a1 ≥ (L.length : Int)) = true := decide_eq_true k1
  clear k0 k1
  go_wp2_with fail
  go_ret
  exact ⟨rfl, hS3.below⟩
 rw [if_neg k1] at h3
 have k1b : decide (a1 ≥ (L.length : Int)) = false := decide_eq_false k1
 obtain ⟨j, rfl⟩ := Int.eq_ofNat_of_zero_le (show 0 ≤ a1 by omega)
 have hj : j < L.length := by omega
 have k1c : decide (L.length ≤ j) = false := decide_eq_false (by omega)
 clear k0 k1
 obtain ⟨x, hx⟩ : ∃ x, x = rd_T44 L (j : Int) := ⟨_, rfl⟩
 rw [← hx] at h3
 unfold l18_ShredSlice.g at h3
 obtain ⟨⟨p0, p1, p2, ee⟩, hc, h4⟩ := Option.bind_eq_some_iff.mp h3
 obtain ⟨rb, hr, h5⟩ := Option.bind_eq_some_iff.mp h4
 clear h3 h4
 have HC := Lib.hid hc
 have HR := Lib.hid hr
 have HX := Lib.hid hx
 have H5 := Lib.hid h5
 clear hc hr hx h5
 go_wp2_with fail
 obtain ⟨ad7, P0, q0, P1, q1, e7, hF⟩ := lf_at C7 j hj
 rw [← HX.out] at hF
 cases e7
 have hFd := hF.drew
 have hSd := hS3.drew
 refine wp_region_held_drew (S := (fun W => ((W.cell? ⟨w.heap.size + 1, 0, none⟩ = some (.slice A2_0 l2_0.length c2_0) ∧ W.cell? ⟨w.heap.size + 1, 1, none⟩ = some (.slice A2_1 l2_1.length c2_1) ∧ W.cell? ⟨w.heap.size + 1, 2, none⟩ = some (.slice A2_2 l2_2.length c2_2)) ∧ (W.cell? ⟨w.heap.size + 1, 6, none⟩ = some (.int .i64 a2_6) ∧ W.cell? ⟨w.heap.size + 1, 7, none⟩ = some (.int .i64 a2_7))) ∧ (W.cell? (ad7.add (j * 6)) = some (.slice P0 x.f0.length q0) ∧ W.cell? ⟨(ad7.add (j * 6)).block, (ad7.add (j * 6)).off + 1, none⟩ = some (.slice P1 x.f1.length q1) ∧ W.cell? ⟨(ad7.add (j * 6)).block, (ad7.add (j * 6)).off + 2, none⟩ = some (.int .i64 x.f2) ∧ W.cell? ⟨(ad7.add (j * 6)).block, (ad7.add (j * 6)).off + 3, none⟩ = some (.int .i64 x.f3) ∧ W.cell? ⟨(ad7.add (j * 6)).block, (ad7.add (j * 6)).off + 4, none⟩ = some (.int .i64 x.f4.f0) ∧ W.cell? ⟨(ad7.add (j * 6)).block, (ad7.add (j * 6)).off + 5, none⟩ = some (.int .i64 x.f4.f1)))) (by kernel_rfl) ⟨⟨hSd.cells.2.1, hSd.cells.2.2.2⟩, hFd.e0, hFd.e1, hFd.e2, hFd.e3, hFd.e4, hFd.e5⟩ (fun hHeld => ?_)
 generalize w3.drew = w5 at *
 clear s0 s1 y0 y1 y2 y3 y4 y5 y6 y7 hS3 hF C7
 refine tkZ 0 (some 32) rfl rfl (v := ?a1) ?b1 ?c1
 case b1 => (intro W' hSw; (try dsimp only at hSw); go_simp; first | done | with_reducible rfl)
 simp only [Act.put, List.setIfInBounds_toArray, List.set_cons_zero, List.set_cons_succ]
 refine tkZ 1 (some 33) rfl rfl (v := ?a2) ?b2 ?c2
 case b2 => (intro W' hSw; (try dsimp only at hSw); go_simp; first | done | with_reducible rfl)
 simp only [Act.put, List.setIfInBounds_toArray, List.set_cons_zero, List.set_cons_succ]
 refine tkZ 2 (some 34) rfl rfl (v := ?a3) ?b3 ?c3
 case b3 => (intro W' hSw; (try dsimp only at hSw); go_simp; first | done | with_reducible rfl)
 simp only [Act.put, List.setIfInBounds_toArray, List.set_cons_zero, List.set_cons_succ]
 refine tkZ 3 (some 35) rfl rfl (v := ?a4) ?b4 ?c4
 case b4 => (intro W' hSw; (try dsimp only at hSw); go_simp; first | done | with_reducible rfl)
 simp only [Act.put, List.setIfInBounds_toArray, List.set_cons_zero, List.set_cons_succ]
 refine tkZ 4 (some 36) rfl rfl (v := ?a5) ?b5 ?c5
 case b5 => (intro W' hSw; (try dsimp only at hSw); go_simp; first | done | with_reducible rfl)
 simp only [Act.put, List.setIfInBounds_toArray, List.set_cons_zero, List.set_cons_succ]
 refine tkZ 5 (some 37) rfl rfl (v := ?a6) ?b6 ?c6
 case b6 => (intro W' hSw; (try dsimp only at hSw); go_simp; first | done | with_reducible rfl)
 simp only [Act.put, List.setIfInBounds_toArray, List.set_cons_zero, List.set_cons_succ]
 refine tkZ 6 (some 38) rfl rfl (v := ?a7) ?b7 ?c7
 case b7 => (intro W' hSw; (try dsimp only at hSw); go_simp; first | done | with_reducible rfl)
 simp only [Act.put, List.setIfInBounds_toArray, List.set_cons_zero, List.set_cons_succ]
 refine tkZ 7 (some 39) rfl rfl (v := ?a8) ?b8 ?c8
 case b8 => (intro W' hSw; (try dsimp only at hSw); go_simp; first | done | with_reducible rfl)
 simp only [Act.put, List.setIfInBounds_toArray, List.set_cons_zero, List.set_cons_succ]
 refine tkZ 8 (some 40) rfl rfl (v := ?a9) ?b9 ?c9
 case b9 => (intro W' hSw; (try dsimp only at hSw); go_simp; first | done | with_reducible rfl)
 simp only [Act.put, List.setIfInBounds_toArray, List.set_cons_zero, List.set_cons_succ]
 refine tkZ 9 (some 41) rfl rfl (v := ?a10) ?b10 ?c10
 case b10 => (intro W' hSw; (try dsimp only at hSw); go_simp; first | done | with_reducible rfl)
 simp only [Act.put, List.setIfInBounds_toArray, List.set_cons_zero, List.set_cons_succ]
 refine wpAnyH_ready (rs := [10, 14]) (by kernel_rfl) (by simp) (AllReadyH.cons (at_drop rfl) (fun KC hKC => ?_) (AllReadyH.cons (at_drop rfl) (fun KD hKD => ?_) AllReadyH.nil))
 ·go_simp
  refine (shred_Slice.calls A2_0 c2_0 l2_0 A2_1 c2_1 l2_1 A2_2 c2_2 l2_2 a2_6 a2_7 P0 q0 x.f0 P1 q1 x.f1 x.f2 x.f3 x.f4.f0 x.f4.f1 p0 p1 p2 ee _ (Kd.C_below hr2_0 hSd.below) hc2_0 (Kd.C_below hr2_1 hSd.below) hc2_1 (Kd.C_below hr2_2 hSd.below) hc2_2 hFd.g0 hFd.h0 hFd.g1 hFd.h1 HC.out).mono ?_
  rintro e w6 ⟨v0, v1, v2, rfl, Q0, Q1, Q2, hB6⟩
  obtain ⟨D0, d0, rfl⟩ := Kd.R_slice Q0
  obtain ⟨D1, d1, rfl⟩ := Kd.R_slice Q1
  obtain ⟨D2, d2, rfl⟩ := Kd.R_slice Q2
  have hS6 := hSd.next hB6
  have hF6 := hFd.next hB6
  refine hKC.out _ _ ⟨⟨hS6.cells.2.1, hS6.cells.2.2.2⟩, hF6.e0, hF6.e1, hF6.e2, hF6.e3, hF6.e4, hF6.e5⟩ (fun hHeld => ?_)
  clear hKC KC
  try simp only [Act.put, List.setIfInBounds_toArray, List.set_cons_zero, List.set_cons_succ]
  refine tkZ 11 (some 31) rfl rfl (v := ?a11) ?b11 ?c11
  case b11 => (intro W' hSw; (try dsimp only at hSw); go_simp; first | done | with_reducible rfl)
  simp only [Act.put, List.setIfInBounds_toArray, List.set_cons_zero, List.set_cons_succ]
  refine tkZ 12 (some 43) rfl rfl (v := ?a12) ?b12 ?c12
  case b12 => (intro W' hSw; (try dsimp only at hSw); go_simp; first | done | with_reducible rfl)
  simp only [Act.put, List.setIfInBounds_toArray, List.set_cons_zero, List.set_cons_succ]
  refine tkZ 13 (some 44) rfl rfl (v := ?a13) ?b13 ?c13
  case b13 => (intro W' hSw; (try dsimp only at hSw); go_simp; first | done | with_reducible rfl)
  simp only [Act.put, List.setIfInBounds_toArray, List.set_cons_zero, List.set_cons_succ]
  have hB7 := below_alloc (Below.refl w6.heap.size w6) (.cells #[.slice none 0 0, .slice none 0 0, .slice none 0 0] 28)
  have hS7 := hS6.next hB7
  have hF7 := hF6.next hB7
  have k9_7 := blk_new w6 (.cells #[.slice none 0 0, .slice none 0 0, .slice none 0 0] 28)
  refine wpAnyH_ready (rs := [14]) (by kernel_rfl) (by simp) (AllReadyH.cons (at_drop rfl) (fun KC hKC => ?_) AllReadyH.nil)
  go_simp
  refine hKC.out _ _ ⟨⟨hS7.cells.2.1, hS7.cells.2.2.2⟩, hF7.e0, hF7.e1, hF7.e2, hF7.e3, hF7.e4, hF7.e5⟩ (fun hHeld => ?_)
  clear hKC KC
  try simp only [Act.put, List.setIfInBounds_toArray, List.set_cons_zero, List.set_cons_succ]
  obtain ⟨B9, hB9⟩ : ∃ B9, w6.heap.size = B9 := ⟨_, rfl⟩
  have hB7' : Below w6.heap.size w6 (w6.alloc (.cells #[.slice none 0 0, .slice none 0 0, .slice none 0 0] 28)) := hB7
  clear hB7
  generalize hw7 : (w6.alloc (.cells #[.slice none 0 0, .slice none 0 0, .slice none 0 0] 28)) = w7 at *
  clear hw7
  rw [hB9] at k9_7
  simp only [hB9]
  have hB68 := (((hB7'.setCell (p := ⟨B9, 0, none⟩) (Nat.le_of_eq hB9) (.slice D0 p0.length d0)).setCell (p := ⟨B9, 1, none⟩) (Nat.le_of_eq hB9) (.slice D1 p1.length d1)).setCell (p := ⟨B9, 2, none⟩) (Nat.le_of_eq hB9) (.slice D2 p2.length d2))
  have hS8 := hS6.next hB68
  have hF8 := hF6.next hB68
  obtain ⟨-, hd0, C0⟩ := Kd.R_reads' (Kd.R_below Q0 hB68)
  obtain ⟨-, hd1, C1⟩ := Kd.R_reads' (Kd.R_below Q1 hB68)
  obtain ⟨-, hd2, C2⟩ := Kd.R_reads' (Kd.R_below Q2 hB68)
  clear hS7 hF7 Q0 Q1 Q2
  have z0 := blk_cell k9_7 0
  have z1 := blk_cell k9_7 1
  have z2 := blk_cell k9_7 2
  have f0 := blk_frozen k9_7 0
  have f1 := blk_frozen k9_7 1
  have f2 := blk_frozen k9_7 2
  have k9_8 := putC k9_7 (.slice D0 p0.length d0) (.slice D1 p1.length d1) (.slice D2 p2.length d2)
  refine wpAnyH_ready (rs := [15]) (by kernel_rfl) (by simp) (AllReadyH.cons (at_drop rfl) (fun KC hKC => ?_) AllReadyH.nil)
  go_simp
  refine hKC.out _ _ ⟨⟨hS8.cells.2.1, hS8.cells.2.2.2⟩, hF8.e0, hF8.e1, hF8.e2, hF8.e3, hF8.e4, hF8.e5⟩ (fun hHeld => ?_)
  clear hKC KC z0 z1 z2 f0 f1 f2
  try simp only [Act.put, List.setIfInBounds_toArray, List.set_cons_zero, List.set_cons_succ]
  generalize (((w7.setCell ⟨B9, 0, none⟩ (.slice D0 p0.length d0)).setCell ⟨B9, 1, none⟩ (.slice D1 p1.length d1)).setCell ⟨B9, 2, none⟩ (.slice D2 p2.length d2)) = w8 at *
  refine tkZ 16 (some 9) rfl rfl (v := ?a14) ?b14 ?c14
  case b14 => (intro W' hSw; (try dsimp only at hSw); go_simp; first | done | with_reducible rfl)
  simp only [Act.put, List.setIfInBounds_toArray, List.set_cons_zero, List.set_cons_succ]
  refine wpAnyH_done (by kernel_rfl) ?_ _
  go_wp2_with fail
  clear hB68 hB7' hS6 hF6 hSd hFd hB6 hB9
  clear hHeld
  have hS8d := hS8.drew
  have hF8d := hF8.drew
  have k9_8d : w8.drew.heap[B9]? = some (.cells #[.slice D0 p0.length d0, .slice D1 p1.length d1, .slice D2 p2.length d2] 28 (0, 0)) := k9_8
  replace C0 := Kd.C_drew C0
  replace C1 := Kd.C_drew C1
  replace C2 := Kd.C_drew C2
  clear hS8 hF8 k9_8
  refine wp_region_held_drew (S := (fun W => (((W.cell? ⟨w.heap.size + 1, 0, none⟩ = some (.slice A2_0 l2_0.length c2_0) ∧ W.cell? ⟨w.heap.size + 1, 1, none⟩ = some (.slice A2_1 l2_1.length c2_1) ∧ W.cell? ⟨w.heap.size + 1, 2, none⟩ = some (.slice A2_2 l2_2.length c2_2)) ∧ (W.cell? ⟨w.heap.size + 1, 6, none⟩ = some (.int .i64 a2_6) ∧ W.cell? ⟨w.heap.size + 1, 7, none⟩ = some (.int .i64 a2_7))) ∧ (W.cell? (ad7.add (j * 6)) = some (.slice P0 x.f0.length q0) ∧ W.cell? ⟨(ad7.add (j * 6)).block, (ad7.add (j * 6)).off + 1, none⟩ = some (.slice P1 x.f1.length q1) ∧ W.cell? ⟨(ad7.add (j * 6)).block, (ad7.add (j * 6)).off + 2, none⟩ = some (.int .i64 x.f2) ∧ W.cell? ⟨(ad7.add (j * 6)).block, (ad7.add (j * 6)).off + 3, none⟩ = some (.int .i64 x.f3) ∧ W.cell? ⟨(ad7.add (j * 6)).block, (ad7.add (j * 6)).off + 4, none⟩ = some (.int .i64 x.f4.f0) ∧ W.cell? ⟨(ad7.add (j * 6)).block, (ad7.add (j * 6)).off + 5, none⟩ = some (.int .i64 x.f4.f1))) ∧ (W.cell? ⟨B9, 0, none⟩ = some (.slice D0 p0.length d0) ∧ W.cell? ⟨B9, 1, none⟩ = some (.slice D1 p1.length d1) ∧ W.cell? ⟨B9, 2, none⟩ = some (.slice D2 p2.length d2)))) (by kernel_rfl) ⟨⟨⟨hS8d.cells.2.1, hS8d.cells.2.2.2⟩, hF8d.e0, hF8d.e1, hF8d.e2, hF8d.e3, hF8d.e4, hF8d.e5⟩, blk_cell k9_8d 0, blk_cell k9_8d 1, blk_cell k9_8d 2⟩ (fun hHeld => ?_)
  generalize w8.drew = w9 at *
  refine tkZ 0 (some 45) rfl rfl (v := ?a15) ?b15 ?c15
  case b15 => (intro W' hSw; (try dsimp only at hSw); go_simp; first | done | with_reducible rfl)
  simp only [Act.put, List.setIfInBounds_toArray, List.set_cons_zero, List.set_cons_succ]
  refine tkZ 1 (some 46) rfl rfl (v := ?a16) ?b16 ?c16
  case b16 => (intro W' hSw; (try dsimp only at hSw); go_simp; first | done | with_reducible rfl)
  simp only [Act.put, List.setIfInBounds_toArray, List.set_cons_zero, List.set_cons_succ]
  refine tkZ 2 (some 47) rfl rfl (v := ?a17) ?b17 ?c17
  case b17 => (intro W' hSw; (try dsimp only at hSw); go_simp; first | done | with_reducible rfl)
  simp only [Act.put, List.setIfInBounds_toArray, List.set_cons_zero, List.set_cons_succ]
  refine tkZ 3 (some 48) rfl rfl (v := ?a18) ?b18 ?c18
  case b18 => (intro W' hSw; (try dsimp only at hSw); go_simp; first | done | with_reducible rfl)
  simp only [Act.put, List.setIfInBounds_toArray, List.set_cons_zero, List.set_cons_succ]
  refine tkZ 4 (some 49) rfl rfl (v := ?a19) ?b19 ?c19
  case b19 => (intro W' hSw; (try dsimp only at hSw); go_simp; first | done | with_reducible rfl)
  simp only [Act.put, List.setIfInBounds_toArray, List.set_cons_zero, List.set_cons_succ]
  refine tkZ 5 (some 50) rfl rfl (v := ?a20) ?b20 ?c20
  case b20 => (intro W' hSw; (try dsimp only at hSw); go_simp; first | done | with_reducible rfl)
  simp only [Act.put, List.setIfInBounds_toArray, List.set_cons_zero, List.set_cons_succ]
  refine wpAnyH_ready (rs := [6]) (by kernel_rfl) (by simp) (AllReadyH.cons (at_drop rfl) (fun KC hKC => ?_) AllReadyH.nil)
  go_simp
  refine (r17_Right.calls k P0 q0 x.f0 P1 q1 x.f1 x.f2 x.f3 x.f4.f0 x.f4.f1 A2_0 c2_0 l2_0 A2_1 c2_1 l2_1 A2_2 c2_2 l2_2 rb _ hF8d.g0 hF8d.h0 hF8d.g1 hF8d.h1 (Kd.C_below hr2_0 hS8d.below) hc2_0 (Kd.C_below hr2_1 hS8d.below) hc2_1 (Kd.C_below hr2_2 hS8d.below) hc2_2 HR.out).mono ?_
  rintro e w10 ⟨rfl, hB10⟩
  have hS10 := hS8d.next hB10
  have hF10 := hF8d.next hB10
  have k9_10 := blk_below k9_8d hB10
  refine hKC.out _ _ ⟨⟨⟨hS10.cells.2.1, hS10.cells.2.2.2⟩, hF10.e0, hF10.e1, hF10.e2, hF10.e3, hF10.e4, hF10.e5⟩, blk_cell k9_10 0, blk_cell k9_10 1, blk_cell k9_10 2⟩ (fun hHeld => ?_)
  clear hKC KC
  try simp only [Act.put, List.setIfInBounds_toArray, List.set_cons_zero, List.set_cons_succ]
  have h5 := H5.out
  clear H5 hS8d hF8d k9_8d
  cases rb
  case false =>
   rw [if_pos rfl] at h5
   refine tkZ 7 (some 52) rfl rfl (v := ?a21) ?b21 ?c21
   case b21 => (intro W' hSw; (try dsimp only at hSw); go_simp; first | done | with_reducible rfl)
   simp only [Act.put, List.setIfInBounds_toArray, List.set_cons_zero, List.set_cons_succ]
   refine wpAnyH_done (by kernel_rfl) ?_ _
   unfold l18_ShredSlice.z at h5
   obtain ⟨s, hs, hz⟩ := Option.bind_eq_some_iff.mp h5
   simp only at hs hz
   split at hz
   case isFalse => cases hz
   case isTrue hall =>
   obtain rfl := Option.some.inj hz
   obtain ⟨rfl, rfl⟩ := hall
   have HS := Lib.hid hs
   clear hs hz h5
   obtain ⟨⟨s0, s1⟩, ⟨y0, y1, y2⟩, -, y6, y7⟩ := hS10.cells
   have u0 := blk_cell k9_10 0
   have u1 := blk_cell k9_10 1
   have u2 := blk_cell k9_10 2
   go_wp2_with fail
   refine (r17_SameColumn.calls k D0 d0 p0 D1 d1 p1 D2 d2 p2 none 0 [] none 0 [] none 0 [] true _ (Kd.C_below C0 hB10) hd0 (Kd.C_below C1 hB10) hd1 (Kd.C_below C2 hB10) hd2 (Kd.C_nil _ _) (Nat.le_refl _) (Kd.C_nil _ _) (Nat.le_refl _) (Kd.C_nil _ _) (Nat.le_refl _) HS.out).mono ?_
   rintro e wZ ⟨rfl, hBZ⟩
   have hbZ := below_step hS10.below hBZ
   clear s0 s1 y0 y1 y2 y6 y7 u0 u1 u2
   go_wp2_with fail
   go_ret
   exact ⟨rfl, hbZ⟩
  case true =>
  rw [if_neg (by decide)] at h5
  refine tkZ 7 (some 52) rfl rfl (v := ?a22) ?b22 ?c22
  case b22 => (intro W' hSw; (try dsimp only at hSw); go_simp; first | done | with_reducible rfl)
  simp only [Act.put, List.setIfInBounds_toArray, List.set_cons_zero, List.set_cons_succ]
  refine wpAnyH_done (by kernel_rfl) ?_ _
  go_wp2_with fail
  clear hHeld
  have hS11 := hS10.drew
  have hF11 := hF10.drew
  have k9_11 : w10.drew.heap[B9]? = some (.cells #[.slice D0 p0.length d0, .slice D1 p1.length d1, .slice D2 p2.length d2] 28 (0, 0)) := k9_10
  replace C0 := Kd.C_drew (Kd.C_below C0 hB10)
  replace C1 := Kd.C_drew (Kd.C_below C1 hB10)
  replace C2 := Kd.C_drew (Kd.C_below C2 hB10)
  clear hS10 hF10 k9_10 hB10
  refine wp_region_held_drew (S := (fun W => (((W.cell? ⟨w.heap.size + 1, 0, none⟩ = some (.slice A2_0 l2_0.length c2_0) ∧ W.cell? ⟨w.heap.size + 1, 1, none⟩ = some (.slice A2_1 l2_1.length c2_1) ∧ W.cell? ⟨w.heap.size + 1, 2, none⟩ = some (.slice A2_2 l2_2.length c2_2)) ∧ (W.cell? ⟨w.heap.size + 1, 6, none⟩ = some (.int .i64 a2_6) ∧ W.cell? ⟨w.heap.size + 1, 7, none⟩ = some (.int .i64 a2_7))) ∧ (W.cell? (ad7.add (j * 6)) = some (.slice P0 x.f0.length q0) ∧ W.cell? ⟨(ad7.add (j * 6)).block, (ad7.add (j * 6)).off + 1, none⟩ = some (.slice P1 x.f1.length q1) ∧ W.cell? ⟨(ad7.add (j * 6)).block, (ad7.add (j * 6)).off + 2, none⟩ = some (.int .i64 x.f2) ∧ W.cell? ⟨(ad7.add (j * 6)).block, (ad7.add (j * 6)).off + 3, none⟩ = some (.int .i64 x.f3) ∧ W.cell? ⟨(ad7.add (j * 6)).block, (ad7.add (j * 6)).off + 4, none⟩ = some (.int .i64 x.f4.f0) ∧ W.cell? ⟨(ad7.add (j * 6)).block, (ad7.add (j * 6)).off + 5, none⟩ = some (.int .i64 x.f4.f1))) ∧ (W.cell? ⟨B9, 0, none⟩ = some (.slice D0 p0.length d0) ∧ W.cell? ⟨B9, 1, none⟩ = some (.slice D1 p1.length d1) ∧ W.cell? ⟨B9, 2, none⟩ = some (.slice D2 p2.length d2)))) (by kernel_rfl) ⟨⟨⟨hS11.cells.2.1, hS11.cells.2.2.2⟩, hF11.e0, hF11.e1, hF11.e2, hF11.e3, hF11.e4, hF11.e5⟩, blk_cell k9_11 0, blk_cell k9_11 1, blk_cell k9_11 2⟩ (fun hHeld => ?_)
  generalize w10.drew = w11 at *
  by_cases k2 : a2_6 < 0
  case pos =>
   rw [if_pos k2] at h5
   have k2b : decide (a2_6 < 0) = true := decide_eq_true k2
   clear k2
   refine tkZ 0 (some 60) rfl rfl (v := ?a29) ?b29 ?c29
   case b29 => (intro W' hSw; (try dsimp only at hSw); go_simp; first | done | with_reducible rfl)
   simp only [Act.put, List.setIfInBounds_toArray, List.set_cons_zero, List.set_cons_succ]
   refine tkZ 1 (some 61) rfl rfl (v := ?a30) ?b30 ?c30
   case b30 => (intro W' hSw; (try dsimp only at hSw); go_simp; first | done | with_reducible rfl)
   simp only [Act.put, List.setIfInBounds_toArray, List.set_cons_zero, List.set_cons_succ]
   refine tkZ 2 (some 62) rfl rfl (v := ?a31) ?b31 ?c31
   case b31 => (intro W' hSw; (try dsimp only at hSw); go_simp; first | done | with_reducible rfl)
   simp only [Act.put, List.setIfInBounds_toArray, List.set_cons_zero, List.set_cons_succ]
   refine tkZ 3 (some 63) rfl rfl (v := ?a32) ?b32 ?c32
   case b32 => (intro W' hSw; (try dsimp only at hSw); go_simp; first | done | with_reducible rfl)
   simp only [Act.put, List.setIfInBounds_toArray, List.set_cons_zero, List.set_cons_succ]
   refine tkN 4 (some 64) rfl rfl (by kernel_rfl) (by kernel_rfl) (by kernel_rfl) (fun _ _ _ h => h) (by rfl) (by assumption) rfl ?tkr334
   simp only [Act.put, List.setIfInBounds_toArray, List.set_cons_zero, List.set_cons_succ]
   refine tkN 5 (some 65) rfl rfl (by kernel_rfl) (by kernel_rfl) (by kernel_rfl) (fun _ _ _ h => h) (by rfl) (by assumption) rfl ?tkr345
   simp only [Act.put, List.setIfInBounds_toArray, List.set_cons_zero, List.set_cons_succ]
   refine tkN 6 (some 66) rfl rfl (by kernel_rfl) (by kernel_rfl) (by kernel_rfl) (fun _ _ _ h => h) (by rfl) (by assumption) rfl ?tkr356
   simp only [Act.put, List.setIfInBounds_toArray, List.set_cons_zero, List.set_cons_succ]
   refine tkN 7 (some 67) rfl rfl (by kernel_rfl) (by kernel_rfl) (by kernel_rfl) (fun _ _ _ h => h) (by rfl) (by assumption) rfl ?tkr367
   simp only [Act.put, List.setIfInBounds_toArray, List.set_cons_zero, List.set_cons_succ]
   refine tkN 8 (some 68) rfl rfl (by kernel_rfl) (by kernel_rfl) (by kernel_rfl) (fun _ _ _ h => h) (by rfl) (by assumption) rfl ?tkr378
   simp only [Act.put, List.setIfInBounds_toArray, List.set_cons_zero, List.set_cons_succ]
   refine tkZ 9 (some 69) rfl rfl (v := ?a38) ?b38 ?c38
   case b38 => (intro W' hSw; (try dsimp only at hSw); go_simp; first | done | with_reducible rfl)
   simp only [Act.put, List.setIfInBounds_toArray, List.set_cons_zero, List.set_cons_succ]
   refine tkZ 10 (some 70) rfl rfl (v := ?a39) ?b39 ?c39
   case b39 => (intro W' hSw; (try dsimp only at hSw); go_simp; first | done | with_reducible rfl)
   simp only [Act.put, List.setIfInBounds_toArray, List.set_cons_zero, List.set_cons_succ]
   refine tkN 11 (some 71) rfl rfl (by kernel_rfl) (by kernel_rfl) (by kernel_rfl) (fun _ _ _ h => h) (by rfl) (by assumption) rfl ?tkr2311
   simp only [Act.put, List.setIfInBounds_toArray, List.set_cons_zero, List.set_cons_succ]
   refine tkN 12 (some 72) rfl rfl (by kernel_rfl) (by kernel_rfl) (by kernel_rfl) (fun _ _ _ h => h) (by rfl) (by assumption) rfl ?tkr2412
   simp only [Act.put, List.setIfInBounds_toArray, List.set_cons_zero, List.set_cons_succ]
   refine tkN 13 (some 73) rfl rfl (by kernel_rfl) (by kernel_rfl) (by kernel_rfl) (fun _ _ _ h => h) (by rfl) (by assumption) rfl ?tkr2513
   simp only [Act.put, List.setIfInBounds_toArray, List.set_cons_zero, List.set_cons_succ]
   refine tkN 14 (some 74) rfl rfl (by kernel_rfl) (by kernel_rfl) (by kernel_rfl) (fun _ _ _ h => h) (by rfl) (by assumption) rfl ?tkr2614
   simp only [Act.put, List.setIfInBounds_toArray, List.set_cons_zero, List.set_cons_succ]
   refine tkN 15 (some 75) rfl rfl (by kernel_rfl) (by kernel_rfl) (by kernel_rfl) (fun _ _ _ h => h) (by rfl) (by assumption) rfl ?tkr2715
   simp only [Act.put, List.setIfInBounds_toArray, List.set_cons_zero, List.set_cons_succ]
   refine tkN 16 (some 76) rfl rfl (by kernel_rfl) (by kernel_rfl) (by kernel_rfl) (fun _ _ _ h => h) (by rfl) (by assumption) rfl ?tkr2816
   simp only [Act.put, List.setIfInBounds_toArray, List.set_cons_zero, List.set_cons_succ]
   refine tkZ 17 (some 77) rfl rfl (v := ?a40) ?b40 ?c40
   case b40 => (intro W' hSw; (try dsimp only at hSw); go_simp; first | done | with_reducible rfl)
   simp only [Act.put, List.setIfInBounds_toArray, List.set_cons_zero, List.set_cons_succ]
   refine wpAnyH_done (by kernel_rfl) ?_ _
   unfold l18_ShredSlice.z at h5
   obtain ⟨s, hs, hz⟩ := Option.bind_eq_some_iff.mp h5
   simp only at hs hz
   split at hz
   case isFalse => cases hz
   case isTrue hall =>
   obtain rfl := Option.some.inj hz
   obtain ⟨rfl, rfl⟩ := hall
   have HS := Lib.hid hs
   clear hs hz h5
   obtain ⟨⟨s0, s1⟩, ⟨y0, y1, y2⟩, -, y6, y7⟩ := hS11.cells
   have u0 := blk_cell k9_11 0
   have u1 := blk_cell k9_11 1
   have u2 := blk_cell k9_11 2
   go_wp2_with fail
   refine (r17_SameColumn.calls k D0 d0 p0 D1 d1 p1 D2 d2 p2 none 0 [] none 0 [] none 0 [] true _ (Kd.C_below C0 (Below.refl _ _)) hd0 (Kd.C_below C1 (Below.refl _ _)) hd1 (Kd.C_below C2 (Below.refl _ _)) hd2 (Kd.C_nil _ _) (Nat.le_refl _) (Kd.C_nil _ _) (Nat.le_refl _) (Kd.C_nil _ _) (Nat.le_refl _) HS.out).mono ?_
   rintro e wZ ⟨rfl, hBZ⟩
   have hbZ := below_step hS11.below hBZ
   clear s0 s1 y0 y1 y2 y6 y7 u0 u1 u2
   go_wp2_with fail
   go_ret
   exact ⟨rfl, hbZ⟩
  case neg =>
  rw [if_neg k2] at h5
  have k2b : decide (a2_6 < 0) = false := decide_eq_false k2
  clear k2
  by_cases k3 : a2_7 < a2_6
  case pos =>
   rw [if_pos k3] at h5
   have k3b : decide (a2_7 < a2_6) = true := decide_eq_true k3
   clear k3
   refine tkZ 0 (some 60) rfl rfl (v := ?a47) ?b47 ?c47
   case b47 => (intro W' hSw; (try dsimp only at hSw); go_simp; first | done | with_reducible rfl)
   simp only [Act.put, List.setIfInBounds_toArray, List.set_cons_zero, List.set_cons_succ]
   refine tkZ 1 (some 61) rfl rfl (v := ?a48) ?b48 ?c48
   case b48 => (intro W' hSw; (try dsimp only at hSw); go_simp; first | done | with_reducible rfl)
   simp only [Act.put, List.setIfInBounds_toArray, List.set_cons_zero, List.set_cons_succ]
   refine tkZ 2 (some 62) rfl rfl (v := ?a49) ?b49 ?c49
   case b49 => (intro W' hSw; (try dsimp only at hSw); go_simp; first | done | with_reducible rfl)
   simp only [Act.put, List.setIfInBounds_toArray, List.set_cons_zero, List.set_cons_succ]
   refine tkZ 3 (some 63) rfl rfl (v := ?a50) ?b50 ?c50
   case b50 => (intro W' hSw; (try dsimp only at hSw); go_simp; first | done | with_reducible rfl)
   simp only [Act.put, List.setIfInBounds_toArray, List.set_cons_zero, List.set_cons_succ]
   refine tkZ 4 (some 64) rfl rfl (v := ?a51) ?b51 ?c51
   case b51 => (intro W' hSw; (try dsimp only at hSw); go_simp; first | done | with_reducible rfl)
   simp only [Act.put, List.setIfInBounds_toArray, List.set_cons_zero, List.set_cons_succ]
   refine tkZ 5 (some 65) rfl rfl (v := ?a52) ?b52 ?c52
   case b52 => (intro W' hSw; (try dsimp only at hSw); go_simp; first | done | with_reducible rfl)
   simp only [Act.put, List.setIfInBounds_toArray, List.set_cons_zero, List.set_cons_succ]
   refine tkZ 6 (some 66) rfl rfl (v := ?a53) ?b53 ?c53
   case b53 => (intro W' hSw; (try dsimp only at hSw); go_simp; first | done | with_reducible rfl)
   simp only [Act.put, List.setIfInBounds_toArray, List.set_cons_zero, List.set_cons_succ]
   refine tkZ 7 (some 67) rfl rfl (v := ?a54) ?b54 ?c54
   case b54 => (intro W' hSw; (try dsimp only at hSw); go_simp; first | done | with_reducible rfl)
   simp only [Act.put, List.setIfInBounds_toArray, List.set_cons_zero, List.set_cons_succ]
   refine tkZ 8 (some 68) rfl rfl (v := ?a55) ?b55 ?c55
   case b55 => (intro W' hSw; (try dsimp only at hSw); go_simp; first | done | with_reducible rfl)
   simp only [Act.put, List.setIfInBounds_toArray, List.set_cons_zero, List.set_cons_succ]
   refine tkZ 9 (some 69) rfl rfl (v := ?a56) ?b56 ?c56
   case b56 => (intro W' hSw; (try dsimp only at hSw); go_simp; first | done | with_reducible rfl)
   simp only [Act.put, List.setIfInBounds_toArray, List.set_cons_zero, List.set_cons_succ]
   refine tkZ 10 (some 70) rfl rfl (v := ?a57) ?b57 ?c57
   case b57 => (intro W' hSw; (try dsimp only at hSw); go_simp; first | done | with_reducible rfl)
   simp only [Act.put, List.setIfInBounds_toArray, List.set_cons_zero, List.set_cons_succ]
   refine tkN 11 (some 71) rfl rfl (by kernel_rfl) (by kernel_rfl) (by kernel_rfl) (fun _ _ _ h => h) (by rfl) (by assumption) rfl ?tkr4111
   simp only [Act.put, List.setIfInBounds_toArray, List.set_cons_zero, List.set_cons_succ]
   refine tkN 12 (some 72) rfl rfl (by kernel_rfl) (by kernel_rfl) (by kernel_rfl) (fun _ _ _ h => h) (by rfl) (by assumption) rfl ?tkr4212
   simp only [Act.put, List.setIfInBounds_toArray, List.set_cons_zero, List.set_cons_succ]
   refine tkN 13 (some 73) rfl rfl (by kernel_rfl) (by kernel_rfl) (by kernel_rfl) (fun _ _ _ h => h) (by rfl) (by assumption) rfl ?tkr4313
   simp only [Act.put, List.setIfInBounds_toArray, List.set_cons_zero, List.set_cons_succ]
   refine tkN 14 (some 74) rfl rfl (by kernel_rfl) (by kernel_rfl) (by kernel_rfl) (fun _ _ _ h => h) (by rfl) (by assumption) rfl ?tkr4414
   simp only [Act.put, List.setIfInBounds_toArray, List.set_cons_zero, List.set_cons_succ]
   refine tkN 15 (some 75) rfl rfl (by kernel_rfl) (by kernel_rfl) (by kernel_rfl) (fun _ _ _ h => h) (by rfl) (by assumption) rfl ?tkr4515
   simp only [Act.put, List.setIfInBounds_toArray, List.set_cons_zero, List.set_cons_succ]
   refine tkN 16 (some 76) rfl rfl (by kernel_rfl) (by kernel_rfl) (by kernel_rfl) (fun _ _ _ h => h) (by rfl) (by assumption) rfl ?tkr4616
   simp only [Act.put, List.setIfInBounds_toArray, List.set_cons_zero, List.set_cons_succ]
   refine tkZ 17 (some 77) rfl rfl (v := ?a58) ?b58 ?c58
   case b58 => (intro W' hSw; (try dsimp only at hSw); go_simp; first | done | with_reducible rfl)
   simp only [Act.put, List.setIfInBounds_toArray, List.set_cons_zero, List.set_cons_succ]
   refine wpAnyH_done (by kernel_rfl) ?_ _
   unfold l18_ShredSlice.z at h5
   obtain ⟨s, hs, hz⟩ := Option.bind_eq_some_iff.mp h5
   simp only at hs hz
   split at hz
   case isFalse => cases hz
   case isTrue hall =>
   obtain rfl := Option.some.inj hz
   obtain ⟨rfl, rfl⟩ := hall
   have HS := Lib.hid hs
   clear hs hz h5
   obtain ⟨⟨s0, s1⟩, ⟨y0, y1, y2⟩, -, y6, y7⟩ := hS11.cells
   have u0 := blk_cell k9_11 0
   have u1 := blk_cell k9_11 1
   have u2 := blk_cell k9_11 2
   go_wp2_with fail
   refine (r17_SameColumn.calls k D0 d0 p0 D1 d1 p1 D2 d2 p2 none 0 [] none 0 [] none 0 [] true _ (Kd.C_below C0 (Below.refl _ _)) hd0 (Kd.C_below C1 (Below.refl _ _)) hd1 (Kd.C_below C2 (Below.refl _ _)) hd2 (Kd.C_nil _ _) (Nat.le_refl _) (Kd.C_nil _ _) (Nat.le_refl _) (Kd.C_nil _ _) (Nat.le_refl _) HS.out).mono ?_
   rintro e wZ ⟨rfl, hBZ⟩
   have hbZ := below_step hS11.below hBZ
   clear s0 s1 y0 y1 y2 y6 y7 u0 u1 u2
   go_wp2_with fail
   go_ret
   exact ⟨rfl, hbZ⟩
  case neg =>
  rw [if_neg k3] at h5
  have k3b : decide (a2_7 < a2_6) = false := decide_eq_false k3
  clear k3
  obtain ⟨nr, hnr, h6⟩ := Option.bind_eq_some_iff.mp h5
  clear h5
  have HNR := Lib.hid hnr
  clear hnr
  refine tkZ 0 (some 60) rfl rfl (v := ?a59) ?b59 ?c59
  case b59 => (intro W' hSw; (try dsimp only at hSw); go_simp; first | done | with_reducible rfl)
  simp only [Act.put, List.setIfInBounds_toArray, List.set_cons_zero, List.set_cons_succ]
  refine tkZ 1 (some 61) rfl rfl (v := ?a60) ?b60 ?c60
  case b60 => (intro W' hSw; (try dsimp only at hSw); go_simp; first | done | with_reducible rfl)
  simp only [Act.put, List.setIfInBounds_toArray, List.set_cons_zero, List.set_cons_succ]
  refine tkZ 2 (some 62) rfl rfl (v := ?a61) ?b61 ?c61
  case b61 => (intro W' hSw; (try dsimp only at hSw); go_simp; first | done | with_reducible rfl)
  simp only [Act.put, List.setIfInBounds_toArray, List.set_cons_zero, List.set_cons_succ]
  refine tkZ 3 (some 63) rfl rfl (v := ?a62) ?b62 ?c62
  case b62 => (intro W' hSw; (try dsimp only at hSw); go_simp; first | done | with_reducible rfl)
  simp only [Act.put, List.setIfInBounds_toArray, List.set_cons_zero, List.set_cons_succ]
  refine tkZ 4 (some 64) rfl rfl (v := ?a63) ?b63 ?c63
  case b63 => (intro W' hSw; (try dsimp only at hSw); go_simp; first | done | with_reducible rfl)
  simp only [Act.put, List.setIfInBounds_toArray, List.set_cons_zero, List.set_cons_succ]
  refine tkZ 5 (some 65) rfl rfl (v := ?a64) ?b64 ?c64
  case b64 => (intro W' hSw; (try dsimp only at hSw); go_simp; first | done | with_reducible rfl)
  simp only [Act.put, List.setIfInBounds_toArray, List.set_cons_zero, List.set_cons_succ]
  refine tkZ 6 (some 66) rfl rfl (v := ?a65) ?b65 ?c65
  case b65 => (intro W' hSw; (try dsimp only at hSw); go_simp; first | done | with_reducible rfl)
  simp only [Act.put, List.setIfInBounds_toArray, List.set_cons_zero, List.set_cons_succ]
  refine tkZ 7 (some 67) rfl rfl (v := ?a66) ?b66 ?c66
  case b66 => (intro W' hSw; (try dsimp only at hSw); go_simp; first | done | with_reducible rfl)
  simp only [Act.put, List.setIfInBounds_toArray, List.set_cons_zero, List.set_cons_succ]
  refine tkZ 8 (some 68) rfl rfl (v := ?a67) ?b67 ?c67
  case b67 => (intro W' hSw; (try dsimp only at hSw); go_simp; first | done | with_reducible rfl)
  simp only [Act.put, List.setIfInBounds_toArray, List.set_cons_zero, List.set_cons_succ]
  refine tkZ 9 (some 69) rfl rfl (v := ?a68) ?b68 ?c68
  case b68 => (intro W' hSw; (try dsimp only at hSw); go_simp; first | done | with_reducible rfl)
  simp only [Act.put, List.setIfInBounds_toArray, List.set_cons_zero, List.set_cons_succ]
  refine tkZ 10 (some 70) rfl rfl (v := ?a69) ?b69 ?c69
  case b69 => (intro W' hSw; (try dsimp only at hSw); go_simp; first | done | with_reducible rfl)
  simp only [Act.put, List.setIfInBounds_toArray, List.set_cons_zero, List.set_cons_succ]
  refine tkZ 11 (some 71) rfl rfl (v := ?a70) ?b70 ?c70
  case b70 => (intro W' hSw; (try dsimp only at hSw); go_simp; first | done | with_reducible rfl)
  simp only [Act.put, List.setIfInBounds_toArray, List.set_cons_zero, List.set_cons_succ]
  refine tkZ 12 (some 72) rfl rfl (v := ?a71) ?b71 ?c71
  case b71 => (intro W' hSw; (try dsimp only at hSw); go_simp; first | done | with_reducible rfl)
  simp only [Act.put, List.setIfInBounds_toArray, List.set_cons_zero, List.set_cons_succ]
  refine tkZ 13 (some 73) rfl rfl (v := ?a72) ?b72 ?c72
  case b72 => (intro W' hSw; (try dsimp only at hSw); go_simp; first | done | with_reducible rfl)
  simp only [Act.put, List.setIfInBounds_toArray, List.set_cons_zero, List.set_cons_succ]
  refine tkZ 14 (some 74) rfl rfl (v := ?a73) ?b73 ?c73
  case b73 => (intro W' hSw; (try dsimp only at hSw); go_simp; first | done | with_reducible rfl)
  simp only [Act.put, List.setIfInBounds_toArray, List.set_cons_zero, List.set_cons_succ]
  refine wpAnyH_ready (rs := [15]) (by kernel_rfl) (by simp) (AllReadyH.cons (at_drop rfl) (fun KC hKC => ?_) AllReadyH.nil)
  go_simp
  refine (r17_Rows.calls k A2_0 c2_0 l2_0 A2_1 c2_1 l2_1 A2_2 c2_2 l2_2 nr _ (Kd.C_below hr2_0 hS11.below) hc2_0 (Kd.C_below hr2_1 hS11.below) hc2_1 (Kd.C_below hr2_2 hS11.below) hc2_2 HNR.out).mono ?_
  rintro e w12 ⟨rfl, hB12⟩
  have hS12 := hS11.next hB12
  have hF12 := hF11.next hB12
  have k9_12 := blk_below k9_11 hB12
  refine hKC.out _ _ ⟨⟨⟨hS12.cells.2.1, hS12.cells.2.2.2⟩, hF12.e0, hF12.e1, hF12.e2, hF12.e3, hF12.e4, hF12.e5⟩, blk_cell k9_12 0, blk_cell k9_12 1, blk_cell k9_12 2⟩ (fun hHeld => ?_)
  clear hKC KC
  try simp only [Act.put, List.setIfInBounds_toArray, List.set_cons_zero, List.set_cons_succ]
  by_cases k4 : a2_7 > nr
  case pos =>
   rw [if_pos k4] at h6
   have k4b : decide (a2_7 > nr) = true := decide_eq_true k4
   clear k4
   refine tkZ 16 (some 76) rfl rfl (v := ?a74) ?b74 ?c74
   case b74 => (intro W' hSw; (try dsimp only at hSw); go_simp; first | done | with_reducible rfl)
   simp only [Act.put, List.setIfInBounds_toArray, List.set_cons_zero, List.set_cons_succ]
   refine tkZ 17 (some 77) rfl rfl (v := ?a75) ?b75 ?c75
   case b75 => (intro W' hSw; (try dsimp only at hSw); go_simp; first | done | with_reducible rfl)
   simp only [Act.put, List.setIfInBounds_toArray, List.set_cons_zero, List.set_cons_succ]
   refine wpAnyH_done (by kernel_rfl) ?_ _
   unfold l18_ShredSlice.z at h6
   obtain ⟨s, hs, hz⟩ := Option.bind_eq_some_iff.mp h6
   simp only at hs hz
   split at hz
   case isFalse => cases hz
   case isTrue hall =>
   obtain rfl := Option.some.inj hz
   obtain ⟨rfl, rfl⟩ := hall
   have HS := Lib.hid hs
   clear hs hz h6
   obtain ⟨⟨s0, s1⟩, ⟨y0, y1, y2⟩, -, y6, y7⟩ := hS12.cells
   have u0 := blk_cell k9_12 0
   have u1 := blk_cell k9_12 1
   have u2 := blk_cell k9_12 2
   go_wp2_with fail
   refine (r17_SameColumn.calls k D0 d0 p0 D1 d1 p1 D2 d2 p2 none 0 [] none 0 [] none 0 [] true _ (Kd.C_below C0 hB12) hd0 (Kd.C_below C1 hB12) hd1 (Kd.C_below C2 hB12) hd2 (Kd.C_nil _ _) (Nat.le_refl _) (Kd.C_nil _ _) (Nat.le_refl _) (Kd.C_nil _ _) (Nat.le_refl _) HS.out).mono ?_
   rintro e wZ ⟨rfl, hBZ⟩
   have hbZ := below_step hS12.below hBZ
   clear s0 s1 y0 y1 y2 y6 y7 u0 u1 u2
   go_wp2_with fail
   go_ret
   exact ⟨rfl, hbZ⟩
  case neg =>
  rw [if_neg k4] at h6
  have k4b : decide (a2_7 > nr) = false := decide_eq_false k4
  clear k4
  obtain ⟨⟨r0, r1, r2⟩, hsl, h7⟩ := Option.bind_eq_some_iff.mp h6
  obtain ⟨s, hs, h8⟩ := Option.bind_eq_some_iff.mp h7
  simp only at hs h8
  split at h8
  case isFalse => cases h8
  case isTrue hall =>
  obtain rfl := Option.some.inj h8
  obtain ⟨rfl, rfl⟩ := hall
  have HSL := Lib.hid hsl
  have HS := Lib.hid hs
  clear hsl hs h6 h7 h8
  refine tkZ 16 (some 76) rfl rfl (v := ?a76) ?b76 ?c76
  case b76 => (intro W' hSw; (try dsimp only at hSw); go_simp; first | done | with_reducible rfl)
  simp only [Act.put, List.setIfInBounds_toArray, List.set_cons_zero, List.set_cons_succ]
  refine tkZ 17 (some 77) rfl rfl (v := ?a77) ?b77 ?c77
  case b77 => (intro W' hSw; (try dsimp only at hSw); go_simp; first | done | with_reducible rfl)
  simp only [Act.put, List.setIfInBounds_toArray, List.set_cons_zero, List.set_cons_succ]
  refine wpAnyH_done (by kernel_rfl) ?_ _
  go_wp2_with fail
  clear hHeld
  have hS13 := hS12.drew
  have hF13 := hF12.drew
  have k9_13 : w12.drew.heap[B9]? = some (.cells #[.slice D0 p0.length d0, .slice D1 p1.length d1, .slice D2 p2.length d2] 28 (0, 0)) := k9_12
  replace C0 := Kd.C_drew (Kd.C_below C0 hB12)
  replace C1 := Kd.C_drew (Kd.C_below C1 hB12)
  replace C2 := Kd.C_drew (Kd.C_below C2 hB12)
  clear hS11 hF11 k9_11 hS12 hF12 k9_12 hB12
  refine wp_region_held_drew (S := (fun W => (((W.cell? ⟨w.heap.size + 1, 0, none⟩ = some (.slice A2_0 l2_0.length c2_0) ∧ W.cell? ⟨w.heap.size + 1, 1, none⟩ = some (.slice A2_1 l2_1.length c2_1) ∧ W.cell? ⟨w.heap.size + 1, 2, none⟩ = some (.slice A2_2 l2_2.length c2_2)) ∧ (W.cell? ⟨w.heap.size + 1, 6, none⟩ = some (.int .i64 a2_6) ∧ W.cell? ⟨w.heap.size + 1, 7, none⟩ = some (.int .i64 a2_7))) ∧ (W.cell? (ad7.add (j * 6)) = some (.slice P0 x.f0.length q0) ∧ W.cell? ⟨(ad7.add (j * 6)).block, (ad7.add (j * 6)).off + 1, none⟩ = some (.slice P1 x.f1.length q1) ∧ W.cell? ⟨(ad7.add (j * 6)).block, (ad7.add (j * 6)).off + 2, none⟩ = some (.int .i64 x.f2) ∧ W.cell? ⟨(ad7.add (j * 6)).block, (ad7.add (j * 6)).off + 3, none⟩ = some (.int .i64 x.f3) ∧ W.cell? ⟨(ad7.add (j * 6)).block, (ad7.add (j * 6)).off + 4, none⟩ = some (.int .i64 x.f4.f0) ∧ W.cell? ⟨(ad7.add (j * 6)).block, (ad7.add (j * 6)).off + 5, none⟩ = some (.int .i64 x.f4.f1))) ∧ (W.cell? ⟨B9, 0, none⟩ = some (.slice D0 p0.length d0) ∧ W.cell? ⟨B9, 1, none⟩ = some (.slice D1 p1.length d1) ∧ W.cell? ⟨B9, 2, none⟩ = some (.slice D2 p2.length d2)))) (by kernel_rfl) ⟨⟨⟨hS13.cells.2.1, hS13.cells.2.2.2⟩, hF13.e0, hF13.e1, hF13.e2, hF13.e3, hF13.e4, hF13.e5⟩, blk_cell k9_13 0, blk_cell k9_13 1, blk_cell k9_13 2⟩ (fun hHeld => ?_)
  generalize w12.drew = w13 at *
  refine tkZ 0 (some 85) rfl rfl (v := ?a78) ?b78 ?c78
  case b78 => (intro W' hSw; (try dsimp only at hSw); go_simp; first | done | with_reducible rfl)
  simp only [Act.put, List.setIfInBounds_toArray, List.set_cons_zero, List.set_cons_succ]
  refine tkZ 1 (some 86) rfl rfl (v := ?a79) ?b79 ?c79
  case b79 => (intro W' hSw; (try dsimp only at hSw); go_simp; first | done | with_reducible rfl)
  simp only [Act.put, List.setIfInBounds_toArray, List.set_cons_zero, List.set_cons_succ]
  refine tkZ 2 (some 87) rfl rfl (v := ?a80) ?b80 ?c80
  case b80 => (intro W' hSw; (try dsimp only at hSw); go_simp; first | done | with_reducible rfl)
  simp only [Act.put, List.setIfInBounds_toArray, List.set_cons_zero, List.set_cons_succ]
  refine tkZ 3 (some 88) rfl rfl (v := ?a81) ?b81 ?c81
  case b81 => (intro W' hSw; (try dsimp only at hSw); go_simp; first | done | with_reducible rfl)
  simp only [Act.put, List.setIfInBounds_toArray, List.set_cons_zero, List.set_cons_succ]
  refine tkZ 4 (some 89) rfl rfl (v := ?a82) ?b82 ?c82
  case b82 => (intro W' hSw; (try dsimp only at hSw); go_simp; first | done | with_reducible rfl)
  simp only [Act.put, List.setIfInBounds_toArray, List.set_cons_zero, List.set_cons_succ]
  refine tkZ 5 (some 90) rfl rfl (v := ?a83) ?b83 ?c83
  case b83 => (intro W' hSw; (try dsimp only at hSw); go_simp; first | done | with_reducible rfl)
  simp only [Act.put, List.setIfInBounds_toArray, List.set_cons_zero, List.set_cons_succ]
  refine tkZ 6 (some 91) rfl rfl (v := ?a84) ?b84 ?c84
  case b84 => (intro W' hSw; (try dsimp only at hSw); go_simp; first | done | with_reducible rfl)
  simp only [Act.put, List.setIfInBounds_toArray, List.set_cons_zero, List.set_cons_succ]
  refine tkZ 7 (some 92) rfl rfl (v := ?a85) ?b85 ?c85
  case b85 => (intro W' hSw; (try dsimp only at hSw); go_simp; first | done | with_reducible rfl)
  simp only [Act.put, List.setIfInBounds_toArray, List.set_cons_zero, List.set_cons_succ]
  refine tkZ 8 (some 93) rfl rfl (v := ?a86) ?b86 ?c86
  case b86 => (intro W' hSw; (try dsimp only at hSw); go_simp; first | done | with_reducible rfl)
  simp only [Act.put, List.setIfInBounds_toArray, List.set_cons_zero, List.set_cons_succ]
  refine tkZ 9 (some 94) rfl rfl (v := ?a87) ?b87 ?c87
  case b87 => (intro W' hSw; (try dsimp only at hSw); go_simp; first | done | with_reducible rfl)
  simp only [Act.put, List.setIfInBounds_toArray, List.set_cons_zero, List.set_cons_succ]
  refine tkZ 10 (some 95) rfl rfl (v := ?a88) ?b88 ?c88
  case b88 => (intro W' hSw; (try dsimp only at hSw); go_simp; first | done | with_reducible rfl)
  simp only [Act.put, List.setIfInBounds_toArray, List.set_cons_zero, List.set_cons_succ]
  refine tkZ 11 (some 96) rfl rfl (v := ?a89) ?b89 ?c89
  case b89 => (intro W' hSw; (try dsimp only at hSw); go_simp; first | done | with_reducible rfl)
  simp only [Act.put, List.setIfInBounds_toArray, List.set_cons_zero, List.set_cons_succ]
  refine tkZ 12 (some 97) rfl rfl (v := ?a90) ?b90 ?c90
  case b90 => (intro W' hSw; (try dsimp only at hSw); go_simp; first | done | with_reducible rfl)
  simp only [Act.put, List.setIfInBounds_toArray, List.set_cons_zero, List.set_cons_succ]
  refine tkZ 13 (some 98) rfl rfl (v := ?a91) ?b91 ?c91
  case b91 => (intro W' hSw; (try dsimp only at hSw); go_simp; first | done | with_reducible rfl)
  simp only [Act.put, List.setIfInBounds_toArray, List.set_cons_zero, List.set_cons_succ]
  refine wpAnyH_ready (rs := [14]) (by kernel_rfl) (by simp) (AllReadyH.cons (at_drop rfl) (fun KC hKC => ?_) AllReadyH.nil)
  go_simp
  refine (r17_Slice.calls k A2_0 c2_0 l2_0 A2_1 c2_1 l2_1 A2_2 c2_2 l2_2 a2_6 a2_7 P0 q0 x.f0 P1 q1 x.f1 x.f2 x.f3 x.f4.f0 x.f4.f1 r0 r1 r2 _ (Kd.C_below hr2_0 hS13.below) hc2_0 (Kd.C_below hr2_1 hS13.below) hc2_1 (Kd.C_below hr2_2 hS13.below) hc2_2 hF13.g0 hF13.h0 hF13.g1 hF13.h1 HSL.out).mono ?_
  rintro e w14 ⟨u0, u1, u2, rfl, T0, T1, T2, hB14⟩
  obtain ⟨E0, g0, rfl⟩ := Kd.R_slice T0
  obtain ⟨E1, g1, rfl⟩ := Kd.R_slice T1
  obtain ⟨E2, g2, rfl⟩ := Kd.R_slice T2
  obtain ⟨-, hg0, X0⟩ := Kd.R_reads' T0
  obtain ⟨-, hg1, X1⟩ := Kd.R_reads' T1
  obtain ⟨-, hg2, X2⟩ := Kd.R_reads' T2
  have hS14 := hS13.next hB14
  have hF14 := hF13.next hB14
  have k9_14 := blk_below k9_13 hB14
  refine hKC.out _ _ ⟨⟨⟨hS14.cells.2.1, hS14.cells.2.2.2⟩, hF14.e0, hF14.e1, hF14.e2, hF14.e3, hF14.e4, hF14.e5⟩, blk_cell k9_14 0, blk_cell k9_14 1, blk_cell k9_14 2⟩ (fun hHeld => ?_)
  clear hKC KC
  try simp only [Act.put, List.setIfInBounds_toArray, List.set_cons_zero, List.set_cons_succ]
  refine wpAnyH_ready (rs := [15]) (by kernel_rfl) (by simp) (AllReadyH.cons (at_drop rfl) (fun KC hKC => ?_) AllReadyH.nil)
  go_simp
  refine (r17_SameColumn.calls k D0 d0 p0 D1 d1 p1 D2 d2 p2 E0 g0 r0 E1 g1 r1 E2 g2 r2 true _ (Kd.C_below C0 hB14) hd0 (Kd.C_below C1 hB14) hd1 (Kd.C_below C2 hB14) hd2 X0 hg0 X1 hg1 X2 hg2 HS.out).mono ?_
  rintro e w15 ⟨rfl, hB15⟩
  have hS15 := hS14.next hB15
  have hF15 := hF14.next hB15
  have k9_15 := blk_below k9_14 hB15
  refine hKC.out _ _ ⟨⟨⟨hS15.cells.2.1, hS15.cells.2.2.2⟩, hF15.e0, hF15.e1, hF15.e2, hF15.e3, hF15.e4, hF15.e5⟩, blk_cell k9_15 0, blk_cell k9_15 1, blk_cell k9_15 2⟩ (fun hHeld => ?_)
  clear hKC KC
  try simp only [Act.put, List.setIfInBounds_toArray, List.set_cons_zero, List.set_cons_succ]
  refine tkZ 16 (some 101) rfl rfl (v := ?a92) ?b92 ?c92
  case b92 => (intro W' hSw; (try dsimp only at hSw); go_simp; first | done | with_reducible rfl)
  simp only [Act.put, List.setIfInBounds_toArray, List.set_cons_zero, List.set_cons_succ]
  refine tkZ 17 (some 6) rfl rfl (v := ?a93) ?b93 ?c93
  case b93 => (intro W' hSw; (try dsimp only at hSw); go_simp; first | done | with_reducible rfl)
  simp only [Act.put, List.setIfInBounds_toArray, List.set_cons_zero, List.set_cons_succ]
  refine wpAnyH_done (by kernel_rfl) ?_ _
  go_wp2_with fail
  go_ret
  exact ⟨rfl, hS15.below⟩
 ·go_simp
  have hB6 := below_alloc (Below.refl w5.heap.size w5) (.cells #[.slice none 0 0, .slice none 0 0, .slice none 0 0] 28)
  have hS6 := hSd.next hB6
  have hF6 := hFd.next hB6
  have k9_6 := blk_new w5 (.cells #[.slice none 0 0, .slice none 0 0, .slice none 0 0] 28)
  refine hKD.out _ _ ⟨⟨hS6.cells.2.1, hS6.cells.2.2.2⟩, hF6.e0, hF6.e1, hF6.e2, hF6.e3, hF6.e4, hF6.e5⟩ (fun hHeld => ?_)
  clear hKD KD
  try simp only [Act.put, List.setIfInBounds_toArray, List.set_cons_zero, List.set_cons_succ]
  obtain ⟨B9, hB9⟩ : ∃ B9, w5.heap.size = B9 := ⟨_, rfl⟩
  generalize hw6 : (w5.alloc (.cells #[.slice none 0 0, .slice none 0 0, .slice none 0 0] 28)) = w6 at *
  clear hw6
  rw [hB9] at k9_6
  simp only [hB9]
  refine wpAnyH_ready (rs := [10]) (by kernel_rfl) (by simp) (AllReadyH.cons (at_drop rfl) (fun KC hKC => ?_) AllReadyH.nil)
  go_simp
  refine (shred_Slice.calls A2_0 c2_0 l2_0 A2_1 c2_1 l2_1 A2_2 c2_2 l2_2 a2_6 a2_7 P0 q0 x.f0 P1 q1 x.f1 x.f2 x.f3 x.f4.f0 x.f4.f1 p0 p1 p2 ee _ (Kd.C_below hr2_0 hS6.below) hc2_0 (Kd.C_below hr2_1 hS6.below) hc2_1 (Kd.C_below hr2_2 hS6.below) hc2_2 hF6.g0 hF6.h0 hF6.g1 hF6.h1 HC.out).mono ?_
  rintro e w7 ⟨v0, v1, v2, rfl, Q0, Q1, Q2, hB7⟩
  obtain ⟨D0, d0, rfl⟩ := Kd.R_slice Q0
  obtain ⟨D1, d1, rfl⟩ := Kd.R_slice Q1
  obtain ⟨D2, d2, rfl⟩ := Kd.R_slice Q2
  have hS7 := hS6.next hB7
  have hF7 := hF6.next hB7
  refine hKC.out _ _ ⟨⟨hS7.cells.2.1, hS7.cells.2.2.2⟩, hF7.e0, hF7.e1, hF7.e2, hF7.e3, hF7.e4, hF7.e5⟩ (fun hHeld => ?_)
  clear hKC KC
  try simp only [Act.put, List.setIfInBounds_toArray, List.set_cons_zero, List.set_cons_succ]
  refine tkZ 11 (some 31) rfl rfl (v := ?a94) ?b94 ?c94
  case b94 => (intro W' hSw; (try dsimp only at hSw); go_simp; first | done | with_reducible rfl)
  simp only [Act.put, List.setIfInBounds_toArray, List.set_cons_zero, List.set_cons_succ]
  refine tkZ 12 (some 43) rfl rfl (v := ?a95) ?b95 ?c95
  case b95 => (intro W' hSw; (try dsimp only at hSw); go_simp; first | done | with_reducible rfl)
  simp only [Act.put, List.setIfInBounds_toArray, List.set_cons_zero, List.set_cons_succ]
  refine tkZ 13 (some 44) rfl rfl (v := ?a96) ?b96 ?c96
  case b96 => (intro W' hSw; (try dsimp only at hSw); go_simp; first | done | with_reducible rfl)
  simp only [Act.put, List.setIfInBounds_toArray, List.set_cons_zero, List.set_cons_succ]
  have k9_7 := blk_below k9_6 hB7
  have hB57 : Below w5.heap.size w5 w7 := below_step hB6 hB7
  have hB58 := (((hB57.setCell (p := ⟨B9, 0, none⟩) (Nat.le_of_eq hB9) (.slice D0 p0.length d0)).setCell (p := ⟨B9, 1, none⟩) (Nat.le_of_eq hB9) (.slice D1 p1.length d1)).setCell (p := ⟨B9, 2, none⟩) (Nat.le_of_eq hB9) (.slice D2 p2.length d2))
  have hS8 := hSd.next hB58
  have hF8 := hFd.next hB58
  obtain ⟨-, hd0, C0⟩ := Kd.R_reads' (setR Q0 k9_7 (by decide) (.slice D0 p0.length d0) (.slice D1 p1.length d1) (.slice D2 p2.length d2))
  obtain ⟨-, hd1, C1⟩ := Kd.R_reads' (setR Q1 k9_7 (by decide) (.slice D0 p0.length d0) (.slice D1 p1.length d1) (.slice D2 p2.length d2))
  obtain ⟨-, hd2, C2⟩ := Kd.R_reads' (setR Q2 k9_7 (by decide) (.slice D0 p0.length d0) (.slice D1 p1.length d1) (.slice D2 p2.length d2))
  clear Q0 Q1 Q2
  have z0 := blk_cell k9_7 0
  have z1 := blk_cell k9_7 1
  have z2 := blk_cell k9_7 2
  have f0 := blk_frozen k9_7 0
  have f1 := blk_frozen k9_7 1
  have f2 := blk_frozen k9_7 2
  have k9_8 := putC k9_7 (.slice D0 p0.length d0) (.slice D1 p1.length d1) (.slice D2 p2.length d2)
  refine wpAnyH_ready (rs := [15]) (by kernel_rfl) (by simp) (AllReadyH.cons (at_drop rfl) (fun KC hKC => ?_) AllReadyH.nil)
  go_simp
  refine hKC.out _ _ ⟨⟨hS8.cells.2.1, hS8.cells.2.2.2⟩, hF8.e0, hF8.e1, hF8.e2, hF8.e3, hF8.e4, hF8.e5⟩ (fun hHeld => ?_)
  clear hKC KC z0 z1 z2 f0 f1 f2
  try simp only [Act.put, List.setIfInBounds_toArray, List.set_cons_zero, List.set_cons_succ]
  generalize (((w7.setCell ⟨B9, 0, none⟩ (.slice D0 p0.length d0)).setCell ⟨B9, 1, none⟩ (.slice D1 p1.length d1)).setCell ⟨B9, 2, none⟩ (.slice D2 p2.length d2)) = w8 at *
  refine tkZ 16 (some 9) rfl rfl (v := ?a97) ?b97 ?c97
  case b97 => (intro W' hSw; (try dsimp only at hSw); go_simp; first | done | with_reducible rfl)
  simp only [Act.put, List.setIfInBounds_toArray, List.set_cons_zero, List.set_cons_succ]
  refine wpAnyH_done (by kernel_rfl) ?_ _
  go_wp2_with fail
  clear hB58 hB57 hS6 hF6 hS7 hF7 hSd hFd hB6 hB7 hB9 k9_6
  clear hHeld
  have hS8d := hS8.drew
  have hF8d := hF8.drew
  have k9_8d : w8.drew.heap[B9]? = some (.cells #[.slice D0 p0.length d0, .slice D1 p1.length d1, .slice D2 p2.length d2] 28 (0, 0)) := k9_8
  replace C0 := Kd.C_drew C0
  replace C1 := Kd.C_drew C1
  replace C2 := Kd.C_drew C2
  clear hS8 hF8 k9_8
  refine wp_region_held_drew (S := (fun W => (((W.cell? ⟨w.heap.size + 1, 0, none⟩ = some (.slice A2_0 l2_0.length c2_0) ∧ W.cell? ⟨w.heap.size + 1, 1, none⟩ = some (.slice A2_1 l2_1.length c2_1) ∧ W.cell? ⟨w.heap.size + 1, 2, none⟩ = some (.slice A2_2 l2_2.length c2_2)) ∧ (W.cell? ⟨w.heap.size + 1, 6, none⟩ = some (.int .i64 a2_6) ∧ W.cell? ⟨w.heap.size + 1, 7, none⟩ = some (.int .i64 a2_7))) ∧ (W.cell? (ad7.add (j * 6)) = some (.slice P0 x.f0.length q0) ∧ W.cell? ⟨(ad7.add (j * 6)).block, (ad7.add (j * 6)).off + 1, none⟩ = some (.slice P1 x.f1.length q1) ∧ W.cell? ⟨(ad7.add (j * 6)).block, (ad7.add (j * 6)).off + 2, none⟩ = some (.int .i64 x.f2) ∧ W.cell? ⟨(ad7.add (j * 6)).block, (ad7.add (j * 6)).off + 3, none⟩ = some (.int .i64 x.f3) ∧ W.cell? ⟨(ad7.add (j * 6)).block, (ad7.add (j * 6)).off + 4, none⟩ = some (.int .i64 x.f4.f0) ∧ W.cell? ⟨(ad7.add (j * 6)).block, (ad7.add (j * 6)).off + 5, none⟩ = some (.int .i64 x.f4.f1))) ∧ (W.cell? ⟨B9, 0, none⟩ = some (.slice D0 p0.length d0) ∧ W.cell? ⟨B9, 1, none⟩ = some (.slice D1 p1.length d1) ∧ W.cell? ⟨B9, 2, none⟩ = some (.slice D2 p2.length d2)))) (by kernel_rfl) ⟨⟨⟨hS8d.cells.2.1, hS8d.cells.2.2.2⟩, hF8d.e0, hF8d.e1, hF8d.e2, hF8d.e3, hF8d.e4, hF8d.e5⟩, blk_cell k9_8d 0, blk_cell k9_8d 1, blk_cell k9_8d 2⟩ (fun hHeld => ?_)
  generalize w8.drew = w9 at *
  refine tkZ 0 (some 45) rfl rfl (v := ?a98) ?b98 ?c98
  case b98 => (intro W' hSw; (try dsimp only at hSw); go_simp; first | done | with_reducible rfl)
  simp only [Act.put, List.setIfInBounds_toArray, List.set_cons_zero, List.set_cons_succ]
  refine tkZ 1 (some 46) rfl rfl (v := ?a99) ?b99 ?c99
  case b99 => (intro W' hSw; (try dsimp only at hSw); go_simp; first | done | with_reducible rfl)
  simp only [Act.put, List.setIfInBounds_toArray, List.set_cons_zero, List.set_cons_succ]
  refine tkZ 2 (some 47) rfl rfl (v := ?a100) ?b100 ?c100
  case b100 => (intro W' hSw; (try dsimp only at hSw); go_simp; first | done | with_reducible rfl)
  simp only [Act.put, List.setIfInBounds_toArray, List.set_cons_zero, List.set_cons_succ]
  refine tkZ 3 (some 48) rfl rfl (v := ?a101) ?b101 ?c101
  case b101 => (intro W' hSw; (try dsimp only at hSw); go_simp; first | done | with_reducible rfl)
  simp only [Act.put, List.setIfInBounds_toArray, List.set_cons_zero, List.set_cons_succ]
  refine tkZ 4 (some 49) rfl rfl (v := ?a102) ?b102 ?c102
  case b102 => (intro W' hSw; (try dsimp only at hSw); go_simp; first | done | with_reducible rfl)
  simp only [Act.put, List.setIfInBounds_toArray, List.set_cons_zero, List.set_cons_succ]
  refine tkZ 5 (some 50) rfl rfl (v := ?a103) ?b103 ?c103
  case b103 => (intro W' hSw; (try dsimp only at hSw); go_simp; first | done | with_reducible rfl)
  simp only [Act.put, List.setIfInBounds_toArray, List.set_cons_zero, List.set_cons_succ]
  refine wpAnyH_ready (rs := [6]) (by kernel_rfl) (by simp) (AllReadyH.cons (at_drop rfl) (fun KC hKC => ?_) AllReadyH.nil)
  go_simp
  refine (r17_Right.calls k P0 q0 x.f0 P1 q1 x.f1 x.f2 x.f3 x.f4.f0 x.f4.f1 A2_0 c2_0 l2_0 A2_1 c2_1 l2_1 A2_2 c2_2 l2_2 rb _ hF8d.g0 hF8d.h0 hF8d.g1 hF8d.h1 (Kd.C_below hr2_0 hS8d.below) hc2_0 (Kd.C_below hr2_1 hS8d.below) hc2_1 (Kd.C_below hr2_2 hS8d.below) hc2_2 HR.out).mono ?_
  rintro e w10 ⟨rfl, hB10⟩
  have hS10 := hS8d.next hB10
  have hF10 := hF8d.next hB10
  have k9_10 := blk_below k9_8d hB10
  refine hKC.out _ _ ⟨⟨⟨hS10.cells.2.1, hS10.cells.2.2.2⟩, hF10.e0, hF10.e1, hF10.e2, hF10.e3, hF10.e4, hF10.e5⟩, blk_cell k9_10 0, blk_cell k9_10 1, blk_cell k9_10 2⟩ (fun hHeld => ?_)
  clear hKC KC
  try simp only [Act.put, List.setIfInBounds_toArray, List.set_cons_zero, List.set_cons_succ]
  have h5 := H5.out
  clear H5 hS8d hF8d k9_8d
  cases rb
  case false =>
   rw [if_pos rfl] at h5
   refine tkZ 7 (some 52) rfl rfl (v := ?a104) ?b104 ?c104
   case b104 => (intro W' hSw; (try dsimp only at hSw); go_simp; first | done | with_reducible rfl)
   simp only [Act.put, List.setIfInBounds_toArray, List.set_cons_zero, List.set_cons_succ]
   refine wpAnyH_done (by kernel_rfl) ?_ _
   unfold l18_ShredSlice.z at h5
   obtain ⟨s, hs, hz⟩ := Option.bind_eq_some_iff.mp h5
   simp only at hs hz
   split at hz
   case isFalse => cases hz
   case isTrue hall =>
   obtain rfl := Option.some.inj hz
   obtain ⟨rfl, rfl⟩ := hall
   have HS := Lib.hid hs
   clear hs hz h5
   obtain ⟨⟨s0, s1⟩, ⟨y0, y1, y2⟩, -, y6, y7⟩ := hS10.cells
   have u0 := blk_cell k9_10 0
   have u1 := blk_cell k9_10 1
   have u2 := blk_cell k9_10 2
   go_wp2_with fail
   refine (r17_SameColumn.calls k D0 d0 p0 D1 d1 p1 D2 d2 p2 none 0 [] none 0 [] none 0 [] true _ (Kd.C_below C0 hB10) hd0 (Kd.C_below C1 hB10) hd1 (Kd.C_below C2 hB10) hd2 (Kd.C_nil _ _) (Nat.le_refl _) (Kd.C_nil _ _) (Nat.le_refl _) (Kd.C_nil _ _) (Nat.le_refl _) HS.out).mono ?_
   rintro e wZ ⟨rfl, hBZ⟩
   have hbZ := below_step hS10.below hBZ
   clear s0 s1 y0 y1 y2 y6 y7 u0 u1 u2
   go_wp2_with fail
   go_ret
   exact ⟨rfl, hbZ⟩
  case true =>
  rw [if_neg (by decide)] at h5
  refine tkZ 7 (some 52) rfl rfl (v := ?a105) ?b105 ?c105
  case b105 => (intro W' hSw; (try dsimp only at hSw); go_simp; first | done | with_reducible rfl)
  simp only [Act.put, List.setIfInBounds_toArray, List.set_cons_zero, List.set_cons_succ]
  refine wpAnyH_done (by kernel_rfl) ?_ _
  go_wp2_with fail
  clear hHeld
  have hS11 := hS10.drew
  have hF11 := hF10.drew
  have k9_11 : w10.drew.heap[B9]? = some (.cells #[.slice D0 p0.length d0, .slice D1 p1.length d1, .slice D2 p2.length d2] 28 (0, 0)) := k9_10
  replace C0 := Kd.C_drew (Kd.C_below C0 hB10)
  replace C1 := Kd.C_drew (Kd.C_below C1 hB10)
  replace C2 := Kd.C_drew (Kd.C_below C2 hB10)
  clear hS10 hF10 k9_10 hB10
  refine wp_region_held_drew (S := (fun W => (((W.cell? ⟨w.heap.size + 1, 0, none⟩ = some (.slice A2_0 l2_0.length c2_0) ∧ W.cell? ⟨w.heap.size + 1, 1, none⟩ = some (.slice A2_1 l2_1.length c2_1) ∧ W.cell? ⟨w.heap.size + 1, 2, none⟩ = some (.slice A2_2 l2_2.length c2_2)) ∧ (W.cell? ⟨w.heap.size + 1, 6, none⟩ = some (.int .i64 a2_6) ∧ W.cell? ⟨w.heap.size + 1, 7, none⟩ = some (.int .i64 a2_7))) ∧ (W.cell? (ad7.add (j * 6)) = some (.slice P0 x.f0.length q0) ∧ W.cell? ⟨(ad7.add (j * 6)).block, (ad7.add (j * 6)).off + 1, none⟩ = some (.slice P1 x.f1.length q1) ∧ W.cell? ⟨(ad7.add (j * 6)).block, (ad7.add (j * 6)).off + 2, none⟩ = some (.int .i64 x.f2) ∧ W.cell? ⟨(ad7.add (j * 6)).block, (ad7.add (j * 6)).off + 3, none⟩ = some (.int .i64 x.f3) ∧ W.cell? ⟨(ad7.add (j * 6)).block, (ad7.add (j * 6)).off + 4, none⟩ = some (.int .i64 x.f4.f0) ∧ W.cell? ⟨(ad7.add (j * 6)).block, (ad7.add (j * 6)).off + 5, none⟩ = some (.int .i64 x.f4.f1))) ∧ (W.cell? ⟨B9, 0, none⟩ = some (.slice D0 p0.length d0) ∧ W.cell? ⟨B9, 1, none⟩ = some (.slice D1 p1.length d1) ∧ W.cell? ⟨B9, 2, none⟩ = some (.slice D2 p2.length d2)))) (by kernel_rfl) ⟨⟨⟨hS11.cells.2.1, hS11.cells.2.2.2⟩, hF11.e0, hF11.e1, hF11.e2, hF11.e3, hF11.e4, hF11.e5⟩, blk_cell k9_11 0, blk_cell k9_11 1, blk_cell k9_11 2⟩ (fun hHeld => ?_)
  generalize w10.drew = w11 at *
  by_cases k2 : a2_6 < 0
  case pos =>
   rw [if_pos k2] at h5
   have k2b : decide (a2_6 < 0) = true := decide_eq_true k2
   clear k2
   refine tkZ 0 (some 60) rfl rfl (v := ?a112) ?b112 ?c112
   case b112 => (intro W' hSw; (try dsimp only at hSw); go_simp; first | done | with_reducible rfl)
   simp only [Act.put, List.setIfInBounds_toArray, List.set_cons_zero, List.set_cons_succ]
   refine tkZ 1 (some 61) rfl rfl (v := ?a113) ?b113 ?c113
   case b113 => (intro W' hSw; (try dsimp only at hSw); go_simp; first | done | with_reducible rfl)
   simp only [Act.put, List.setIfInBounds_toArray, List.set_cons_zero, List.set_cons_succ]
   refine tkZ 2 (some 62) rfl rfl (v := ?a114) ?b114 ?c114
   case b114 => (intro W' hSw; (try dsimp only at hSw); go_simp; first | done | with_reducible rfl)
   simp only [Act.put, List.setIfInBounds_toArray, List.set_cons_zero, List.set_cons_succ]
   refine tkZ 3 (some 63) rfl rfl (v := ?a115) ?b115 ?c115
   case b115 => (intro W' hSw; (try dsimp only at hSw); go_simp; first | done | with_reducible rfl)
   simp only [Act.put, List.setIfInBounds_toArray, List.set_cons_zero, List.set_cons_succ]
   refine tkN 4 (some 64) rfl rfl (by kernel_rfl) (by kernel_rfl) (by kernel_rfl) (fun _ _ _ h => h) (by rfl) (by assumption) rfl ?tkr1164
   simp only [Act.put, List.setIfInBounds_toArray, List.set_cons_zero, List.set_cons_succ]
   refine tkN 5 (some 65) rfl rfl (by kernel_rfl) (by kernel_rfl) (by kernel_rfl) (fun _ _ _ h => h) (by rfl) (by assumption) rfl ?tkr1175
   simp only [Act.put, List.setIfInBounds_toArray, List.set_cons_zero, List.set_cons_succ]
   refine tkN 6 (some 66) rfl rfl (by kernel_rfl) (by kernel_rfl) (by kernel_rfl) (fun _ _ _ h => h) (by rfl) (by assumption) rfl ?tkr1186
   simp only [Act.put, List.setIfInBounds_toArray, List.set_cons_zero, List.set_cons_succ]
   refine tkN 7 (some 67) rfl rfl (by kernel_rfl) (by kernel_rfl) (by kernel_rfl) (fun _ _ _ h => h) (by rfl) (by assumption) rfl ?tkr1197
   simp only [Act.put, List.setIfInBounds_toArray, List.set_cons_zero, List.set_cons_succ]
   refine tkN 8 (some 68) rfl rfl (by kernel_rfl) (by kernel_rfl) (by kernel_rfl) (fun _ _ _ h => h) (by rfl) (by assumption) rfl ?tkr1208
   simp only [Act.put, List.setIfInBounds_toArray, List.set_cons_zero, List.set_cons_succ]
   refine tkZ 9 (some 69) rfl rfl (v := ?a121) ?b121 ?c121
   case b121 => (intro W' hSw; (try dsimp only at hSw); go_simp; first | done | with_reducible rfl)
   simp only [Act.put, List.setIfInBounds_toArray, List.set_cons_zero, List.set_cons_succ]
   refine tkZ 10 (some 70) rfl rfl (v := ?a122) ?b122 ?c122
   case b122 => (intro W' hSw; (try dsimp only at hSw); go_simp; first | done | with_reducible rfl)
   simp only [Act.put, List.setIfInBounds_toArray, List.set_cons_zero, List.set_cons_succ]
   refine tkN 11 (some 71) rfl rfl (by kernel_rfl) (by kernel_rfl) (by kernel_rfl) (fun _ _ _ h => h) (by rfl) (by assumption) rfl ?tkr10611
   simp only [Act.put, List.setIfInBounds_toArray, List.set_cons_zero, List.set_cons_succ]
   refine tkN 12 (some 72) rfl rfl (by kernel_rfl) (by kernel_rfl) (by kernel_rfl) (fun _ _ _ h => h) (by rfl) (by assumption) rfl ?tkr10712
   simp only [Act.put, List.setIfInBounds_toArray, List.set_cons_zero, List.set_cons_succ]
   refine tkN 13 (some 73) rfl rfl (by kernel_rfl) (by kernel_rfl) (by kernel_rfl) (fun _ _ _ h => h) (by rfl) (by assumption) rfl ?tkr10813
   simp only [Act.put, List.setIfInBounds_toArray, List.set_cons_zero, List.set_cons_succ]
   refine tkN 14 (some 74) rfl rfl (by kernel_rfl) (by kernel_rfl) (by kernel_rfl) (fun _ _ _ h => h) (by rfl) (by assumption) rfl ?tkr10914
   simp only [Act.put, List.setIfInBounds_toArray, List.set_cons_zero, List.set_cons_succ]
   refine tkN 15 (some 75) rfl rfl (by kernel_rfl) (by kernel_rfl) (by kernel_rfl) (fun _ _ _ h => h) (by rfl) (by assumption) rfl ?tkr11015
   simp only [Act.put, List.setIfInBounds_toArray, List.set_cons_zero, List.set_cons_succ]
   refine tkN 16 (some 76) rfl rfl (by kernel_rfl) (by kernel_rfl) (by kernel_rfl) (fun _ _ _ h => h) (by rfl) (by assumption) rfl ?tkr11116
   simp only [Act.put, List.setIfInBounds_toArray, List.set_cons_zero, List.set_cons_succ]
   refine tkZ 17 (some 77) rfl rfl (v := ?a123) ?b123 ?c123
   case b123 => (intro W' hSw; (try dsimp only at hSw); go_simp; first | done | with_reducible rfl)
   simp only [Act.put, List.setIfInBounds_toArray, List.set_cons_zero, List.set_cons_succ]
   refine wpAnyH_done (by kernel_rfl) ?_ _
   unfold l18_ShredSlice.z at h5
   obtain ⟨s, hs, hz⟩ := Option.bind_eq_some_iff.mp h5
   simp only at hs hz
   split at hz
   case isFalse => cases hz
   case isTrue hall =>
   obtain rfl := Option.some.inj hz
   obtain ⟨rfl, rfl⟩ := hall
   have HS := Lib.hid hs
   clear hs hz h5
   obtain ⟨⟨s0, s1⟩, ⟨y0, y1, y2⟩, -, y6, y7⟩ := hS11.cells
   have u0 := blk_cell k9_11 0
   have u1 := blk_cell k9_11 1
   have u2 := blk_cell k9_11 2
   go_wp2_with fail
   refine (r17_SameColumn.calls k D0 d0 p0 D1 d1 p1 D2 d2 p2 none 0 [] none 0 [] none 0 [] true _ (Kd.C_below C0 (Below.refl _ _)) hd0 (Kd.C_below C1 (Below.refl _ _)) hd1 (Kd.C_below C2 (Below.refl _ _)) hd2 (Kd.C_nil _ _) (Nat.le_refl _) (Kd.C_nil _ _) (Nat.le_refl _) (Kd.C_nil _ _) (Nat.le_refl _) HS.out).mono ?_
   rintro e wZ ⟨rfl, hBZ⟩
   have hbZ := below_step hS11.below hBZ
   clear s0 s1 y0 y1 y2 y6 y7 u0 u1 u2
   go_wp2_with fail
   go_ret
   exact ⟨rfl, hbZ⟩
  case neg =>
  rw [if_neg k2] at h5
  have k2b : decide (a2_6 < 0) = false := decide_eq_false k2
  clear k2
  by_cases k3 : a2_7 < a2_6
  case pos =>
   rw [if_pos k3] at h5
   have k3b : decide (a2_7 < a2_6) = true := decide_eq_true k3
   clear k3
   refine tkZ 0 (some 60) rfl rfl (v := ?a130) ?b130 ?c130
   case b130 => (intro W' hSw; (try dsimp only at hSw); go_simp; first | done | with_reducible rfl)
   simp only [Act.put, List.setIfInBounds_toArray, List.set_cons_zero, List.set_cons_succ]
   refine tkZ 1 (some 61) rfl rfl (v := ?a131) ?b131 ?c131
   case b131 => (intro W' hSw; (try dsimp only at hSw); go_simp; first | done | with_reducible rfl)
   simp only [Act.put, List.setIfInBounds_toArray, List.set_cons_zero, List.set_cons_succ]
   refine tkZ 2 (some 62) rfl rfl (v := ?a132) ?b132 ?c132
   case b132 => (intro W' hSw; (try dsimp only at hSw); go_simp; first | done | with_reducible rfl)
   simp only [Act.put, List.setIfInBounds_toArray, List.set_cons_zero, List.set_cons_succ]
   refine tkZ 3 (some 63) rfl rfl (v := ?a133) ?b133 ?c133
   case b133 => (intro W' hSw; (try dsimp only at hSw); go_simp; first | done | with_reducible rfl)
   simp only [Act.put, List.setIfInBounds_toArray, List.set_cons_zero, List.set_cons_succ]
   refine tkZ 4 (some 64) rfl rfl (v := ?a134) ?b134 ?c134
   case b134 => (intro W' hSw; (try dsimp only at hSw); go_simp; first | done | with_reducible rfl)
   simp only [Act.put, List.setIfInBounds_toArray, List.set_cons_zero, List.set_cons_succ]
   refine tkZ 5 (some 65) rfl rfl (v := ?a135) ?b135 ?c135
   case b135 => (intro W' hSw; (try dsimp only at hSw); go_simp; first | done | with_reducible rfl)
   simp only [Act.put, List.setIfInBounds_toArray, List.set_cons_zero, List.set_cons_succ]
   refine tkZ 6 (some 66) rfl rfl (v := ?a136) ?b136 ?c136
   case b136 => (intro W' hSw; (try dsimp only at hSw); go_simp; first | done | with_reducible rfl)
   simp only [Act.put, List.setIfInBounds_toArray, List.set_cons_zero, List.set_cons_succ]
   refine tkZ 7 (some 67) rfl rfl (v := ?a137) ?b137 ?c137
   case b137 => (intro W' hSw; (try dsimp only at hSw); go_simp; first | done | with_reducible rfl)
   simp only [Act.put, List.setIfInBounds_toArray, List.set_cons_zero, List.set_cons_succ]
   refine tkZ 8 (some 68) rfl rfl (v := ?a138) ?b138 ?c138
   case b138 => (intro W' hSw; (try dsimp only at hSw); go_simp; first | done | with_reducible rfl)
   simp only [Act.put, List.setIfInBounds_toArray, List.set_cons_zero, List.set_cons_succ]
   refine tkZ 9 (some 69) rfl rfl (v := ?a139) ?b139 ?c139
   case b139 => (intro W' hSw; (try dsimp only at hSw); go_simp; first | done | with_reducible rfl)
   simp only [Act.put, List.setIfInBounds_toArray, List.set_cons_zero, List.set_cons_succ]
   refine tkZ 10 (some 70) rfl rfl (v := ?a140) ?b140 ?c140
   case b140 => (intro W' hSw; (try dsimp only at hSw); go_simp; first | done | with_reducible rfl)
   simp only [Act.put, List.setIfInBounds_toArray, List.set_cons_zero, List.set_cons_succ]
   refine tkN 11 (some 71) rfl rfl (by kernel_rfl) (by kernel_rfl) (by kernel_rfl) (fun _ _ _ h => h) (by rfl) (by assumption) rfl ?tkr12411
   simp only [Act.put, List.setIfInBounds_toArray, List.set_cons_zero, List.set_cons_succ]
   refine tkN 12 (some 72) rfl rfl (by kernel_rfl) (by kernel_rfl) (by kernel_rfl) (fun _ _ _ h => h) (by rfl) (by assumption) rfl ?tkr12512
   simp only [Act.put, List.setIfInBounds_toArray, List.set_cons_zero, List.set_cons_succ]
   refine tkN 13 (some 73) rfl rfl (by kernel_rfl) (by kernel_rfl) (by kernel_rfl) (fun _ _ _ h => h) (by rfl) (by assumption) rfl ?tkr12613
   simp only [Act.put, List.setIfInBounds_toArray, List.set_cons_zero, List.set_cons_succ]
   refine tkN 14 (some 74) rfl rfl (by kernel_rfl) (by kernel_rfl) (by kernel_rfl) (fun _ _ _ h => h) (by rfl) (by assumption) rfl ?tkr12714
   simp only [Act.put, List.setIfInBounds_toArray, List.set_cons_zero, List.set_cons_succ]
   refine tkN 15 (some 75) rfl rfl (by kernel_rfl) (by kernel_rfl) (by kernel_rfl) (fun _ _ _ h => h) (by rfl) (by assumption) rfl ?tkr12815
   simp only [Act.put, List.setIfInBounds_toArray, List.set_cons_zero, List.set_cons_succ]
   refine tkN 16 (some 76) rfl rfl (by kernel_rfl) (by kernel_rfl) (by kernel_rfl) (fun _ _ _ h => h) (by rfl) (by assumption) rfl ?tkr12916
   simp only [Act.put, List.setIfInBounds_toArray, List.set_cons_zero, List.set_cons_succ]
   refine tkZ 17 (some 77) rfl rfl (v := ?a141) ?b141 ?c141
   case b141 => (intro W' hSw; (try dsimp only at hSw); go_simp; first | done | with_reducible rfl)
   simp only [Act.put, List.setIfInBounds_toArray, List.set_cons_zero, List.set_cons_succ]
   refine wpAnyH_done (by kernel_rfl) ?_ _
   unfold l18_ShredSlice.z at h5
   obtain ⟨s, hs, hz⟩ := Option.bind_eq_some_iff.mp h5
   simp only at hs hz
   split at hz
   case isFalse => cases hz
   case isTrue hall =>
   obtain rfl := Option.some.inj hz
   obtain ⟨rfl, rfl⟩ := hall
   have HS := Lib.hid hs
   clear hs hz h5
   obtain ⟨⟨s0, s1⟩, ⟨y0, y1, y2⟩, -, y6, y7⟩ := hS11.cells
   have u0 := blk_cell k9_11 0
   have u1 := blk_cell k9_11 1
   have u2 := blk_cell k9_11 2
   go_wp2_with fail
   refine (r17_SameColumn.calls k D0 d0 p0 D1 d1 p1 D2 d2 p2 none 0 [] none 0 [] none 0 [] true _ (Kd.C_below C0 (Below.refl _ _)) hd0 (Kd.C_below C1 (Below.refl _ _)) hd1 (Kd.C_below C2 (Below.refl _ _)) hd2 (Kd.C_nil _ _) (Nat.le_refl _) (Kd.C_nil _ _) (Nat.le_refl _) (Kd.C_nil _ _) (Nat.le_refl _) HS.out).mono ?_
   rintro e wZ ⟨rfl, hBZ⟩
   have hbZ := below_step hS11.below hBZ
   clear s0 s1 y0 y1 y2 y6 y7 u0 u1 u2
   go_wp2_with fail
   go_ret
   exact ⟨rfl, hbZ⟩
  case neg =>
  rw [if_neg k3] at h5
  have k3b : decide (a2_7 < a2_6) = false := decide_eq_false k3
  clear k3
  obtain ⟨nr, hnr, h6⟩ := Option.bind_eq_some_iff.mp h5
  clear h5
  have HNR := Lib.hid hnr
  clear hnr
  refine tkZ 0 (some 60) rfl rfl (v := ?a142) ?b142 ?c142
  case b142 => (intro W' hSw; (try dsimp only at hSw); go_simp; first | done | with_reducible rfl)
  simp only [Act.put, List.setIfInBounds_toArray, List.set_cons_zero, List.set_cons_succ]
  refine tkZ 1 (some 61) rfl rfl (v := ?a143) ?b143 ?c143
  case b143 => (intro W' hSw; (try dsimp only at hSw); go_simp; first | done | with_reducible rfl)
  simp only [Act.put, List.setIfInBounds_toArray, List.set_cons_zero, List.set_cons_succ]
  refine tkZ 2 (some 62) rfl rfl (v := ?a144) ?b144 ?c144
  case b144 => (intro W' hSw; (try dsimp only at hSw); go_simp; first | done | with_reducible rfl)
  simp only [Act.put, List.setIfInBounds_toArray, List.set_cons_zero, List.set_cons_succ]
  refine tkZ 3 (some 63) rfl rfl (v := ?a145) ?b145 ?c145
  case b145 => (intro W' hSw; (try dsimp only at hSw); go_simp; first | done | with_reducible rfl)
  simp only [Act.put, List.setIfInBounds_toArray, List.set_cons_zero, List.set_cons_succ]
  refine tkZ 4 (some 64) rfl rfl (v := ?a146) ?b146 ?c146
  case b146 => (intro W' hSw; (try dsimp only at hSw); go_simp; first | done | with_reducible rfl)
  simp only [Act.put, List.setIfInBounds_toArray, List.set_cons_zero, List.set_cons_succ]
  refine tkZ 5 (some 65) rfl rfl (v := ?a147) ?b147 ?c147
  case b147 => (intro W' hSw; (try dsimp only at hSw); go_simp; first | done | with_reducible rfl)
  simp only [Act.put, List.setIfInBounds_toArray, List.set_cons_zero, List.set_cons_succ]
  refine tkZ 6 (some 66) rfl rfl (v := ?a148) ?b148 ?c148
  case b148 => (intro W' hSw; (try dsimp only at hSw); go_simp; first | done | with_reducible rfl)
  simp only [Act.put, List.setIfInBounds_toArray, List.set_cons_zero, List.set_cons_succ]
  refine tkZ 7 (some 67) rfl rfl (v := ?a149) ?b149 ?c149
  case b149 => (intro W' hSw; (try dsimp only at hSw); go_simp; first | done | with_reducible rfl)
  simp only [Act.put, List.setIfInBounds_toArray, List.set_cons_zero, List.set_cons_succ]
  refine tkZ 8 (some 68) rfl rfl (v := ?a150) ?b150 ?c150
  case b150 => (intro W' hSw; (try dsimp only at hSw); go_simp; first | done | with_reducible rfl)
  simp only [Act.put, List.setIfInBounds_toArray, List.set_cons_zero, List.set_cons_succ]
  refine tkZ 9 (some 69) rfl rfl (v := ?a151) ?b151 ?c151
  case b151 => (intro W' hSw; (try dsimp only at hSw); go_simp; first | done | with_reducible rfl)
  simp only [Act.put, List.setIfInBounds_toArray, List.set_cons_zero, List.set_cons_succ]
  refine tkZ 10 (some 70) rfl rfl (v := ?a152) ?b152 ?c152
  case b152 => (intro W' hSw; (try dsimp only at hSw); go_simp; first | done | with_reducible rfl)
  simp only [Act.put, List.setIfInBounds_toArray, List.set_cons_zero, List.set_cons_succ]
  refine tkZ 11 (some 71) rfl rfl (v := ?a153) ?b153 ?c153
  case b153 => (intro W' hSw; (try dsimp only at hSw); go_simp; first | done | with_reducible rfl)
  simp only [Act.put, List.setIfInBounds_toArray, List.set_cons_zero, List.set_cons_succ]
  refine tkZ 12 (some 72) rfl rfl (v := ?a154) ?b154 ?c154
  case b154 => (intro W' hSw; (try dsimp only at hSw); go_simp; first | done | with_reducible rfl)
  simp only [Act.put, List.setIfInBounds_toArray, List.set_cons_zero, List.set_cons_succ]
  refine tkZ 13 (some 73) rfl rfl (v := ?a155) ?b155 ?c155
  case b155 => (intro W' hSw; (try dsimp only at hSw); go_simp; first | done | with_reducible rfl)
  simp only [Act.put, List.setIfInBounds_toArray, List.set_cons_zero, List.set_cons_succ]
  refine tkZ 14 (some 74) rfl rfl (v := ?a156) ?b156 ?c156
  case b156 => (intro W' hSw; (try dsimp only at hSw); go_simp; first | done | with_reducible rfl)
  simp only [Act.put, List.setIfInBounds_toArray, List.set_cons_zero, List.set_cons_succ]
  refine wpAnyH_ready (rs := [15]) (by kernel_rfl) (by simp) (AllReadyH.cons (at_drop rfl) (fun KC hKC => ?_) AllReadyH.nil)
  go_simp
  refine (r17_Rows.calls k A2_0 c2_0 l2_0 A2_1 c2_1 l2_1 A2_2 c2_2 l2_2 nr _ (Kd.C_below hr2_0 hS11.below) hc2_0 (Kd.C_below hr2_1 hS11.below) hc2_1 (Kd.C_below hr2_2 hS11.below) hc2_2 HNR.out).mono ?_
  rintro e w12 ⟨rfl, hB12⟩
  have hS12 := hS11.next hB12
  have hF12 := hF11.next hB12
  have k9_12 := blk_below k9_11 hB12
  refine hKC.out _ _ ⟨⟨⟨hS12.cells.2.1, hS12.cells.2.2.2⟩, hF12.e0, hF12.e1, hF12.e2, hF12.e3, hF12.e4, hF12.e5⟩, blk_cell k9_12 0, blk_cell k9_12 1, blk_cell k9_12 2⟩ (fun hHeld => ?_)
  clear hKC KC
  try simp only [Act.put, List.setIfInBounds_toArray, List.set_cons_zero, List.set_cons_succ]
  by_cases k4 : a2_7 > nr
  case pos =>
   rw [if_pos k4] at h6
   have k4b : decide (a2_7 > nr) = true := decide_eq_true k4
   clear k4
   refine tkZ 16 (some 76) rfl rfl (v := ?a157) ?b157 ?c157
   case b157 => (intro W' hSw; (try dsimp only at hSw); go_simp; first | done | with_reducible rfl)
   simp only [Act.put, List.setIfInBounds_toArray, List.set_cons_zero, List.set_cons_succ]
   refine tkZ 17 (some 77) rfl rfl (v := ?a158) ?b158 ?c158
   case b158 => (intro W' hSw; (try dsimp only at hSw); go_simp; first | done | with_reducible rfl)
   simp only [Act.put, List.setIfInBounds_toArray, List.set_cons_zero, List.set_cons_succ]
   refine wpAnyH_done (by kernel_rfl) ?_ _
   unfold l18_ShredSlice.z at h6
   obtain ⟨s, hs, hz⟩ := Option.bind_eq_some_iff.mp h6
   simp only at hs hz
   split at hz
   case isFalse => cases hz
   case isTrue hall =>
   obtain rfl := Option.some.inj hz
   obtain ⟨rfl, rfl⟩ := hall
   have HS := Lib.hid hs
   clear hs hz h6
   obtain ⟨⟨s0, s1⟩, ⟨y0, y1, y2⟩, -, y6, y7⟩ := hS12.cells
   have u0 := blk_cell k9_12 0
   have u1 := blk_cell k9_12 1
   have u2 := blk_cell k9_12 2
   go_wp2_with fail
   refine (r17_SameColumn.calls k D0 d0 p0 D1 d1 p1 D2 d2 p2 none 0 [] none 0 [] none 0 [] true _ (Kd.C_below C0 hB12) hd0 (Kd.C_below C1 hB12) hd1 (Kd.C_below C2 hB12) hd2 (Kd.C_nil _ _) (Nat.le_refl _) (Kd.C_nil _ _) (Nat.le_refl _) (Kd.C_nil _ _) (Nat.le_refl _) HS.out).mono ?_
   rintro e wZ ⟨rfl, hBZ⟩
   have hbZ := below_step hS12.below hBZ
   clear s0 s1 y0 y1 y2 y6 y7 u0 u1 u2
   go_wp2_with fail
   go_ret
   exact ⟨rfl, hbZ⟩
  case neg =>
  rw [if_neg k4] at h6
  have k4b : decide (a2_7 > nr) = false := decide_eq_false k4
  clear k4
  obtain ⟨⟨r0, r1, r2⟩, hsl, h7⟩ := Option.bind_eq_some_iff.mp h6
  obtain ⟨s, hs, h8⟩ := Option.bind_eq_some_iff.mp h7
  simp only at hs h8
  split at h8
  case isFalse => cases h8
  case isTrue hall =>
  obtain rfl := Option.some.inj h8
  obtain ⟨rfl, rfl⟩ := hall
  have HSL := Lib.hid hsl
  have HS := Lib.hid hs
  clear hsl hs h6 h7 h8
  refine tkZ 16 (some 76) rfl rfl (v := ?a159) ?b159 ?c159
  case b159 => (intro W' hSw; (try dsimp only at hSw); go_simp; first | done | with_reducible rfl)
  simp only [Act.put, List.setIfInBounds_toArray, List.set_cons_zero, List.set_cons_succ]
  refine tkZ 17 (some 77) rfl rfl (v := ?a160) ?b160 ?c160
  case b160 => (intro W' hSw; (try dsimp only at hSw); go_simp; first | done | with_reducible rfl)
  simp only [Act.put, List.setIfInBounds_toArray, List.set_cons_zero, List.set_cons_succ]
  refine wpAnyH_done (by kernel_rfl) ?_ _
  go_wp2_with fail
  clear hHeld
  have hS13 := hS12.drew
  have hF13 := hF12.drew
  have k9_13 : w12.drew.heap[B9]? = some (.cells #[.slice D0 p0.length d0, .slice D1 p1.length d1, .slice D2 p2.length d2] 28 (0, 0)) := k9_12
  replace C0 := Kd.C_drew (Kd.C_below C0 hB12)
  replace C1 := Kd.C_drew (Kd.C_below C1 hB12)
  replace C2 := Kd.C_drew (Kd.C_below C2 hB12)
  clear hS11 hF11 k9_11 hS12 hF12 k9_12 hB12
  refine wp_region_held_drew (S := (fun W => (((W.cell? ⟨w.heap.size + 1, 0, none⟩ = some (.slice A2_0 l2_0.length c2_0) ∧ W.cell? ⟨w.heap.size + 1, 1, none⟩ = some (.slice A2_1 l2_1.length c2_1) ∧ W.cell? ⟨w.heap.size + 1, 2, none⟩ = some (.slice A2_2 l2_2.length c2_2)) ∧ (W.cell? ⟨w.heap.size + 1, 6, none⟩ = some (.int .i64 a2_6) ∧ W.cell? ⟨w.heap.size + 1, 7, none⟩ = some (.int .i64 a2_7))) ∧ (W.cell? (ad7.add (j * 6)) = some (.slice P0 x.f0.length q0) ∧ W.cell? ⟨(ad7.add (j * 6)).block, (ad7.add (j * 6)).off + 1, none⟩ = some (.slice P1 x.f1.length q1) ∧ W.cell? ⟨(ad7.add (j * 6)).block, (ad7.add (j * 6)).off + 2, none⟩ = some (.int .i64 x.f2) ∧ W.cell? ⟨(ad7.add (j * 6)).block, (ad7.add (j * 6)).off + 3, none⟩ = some (.int .i64 x.f3) ∧ W.cell? ⟨(ad7.add (j * 6)).block, (ad7.add (j * 6)).off + 4, none⟩ = some (.int .i64 x.f4.f0) ∧ W.cell? ⟨(ad7.add (j * 6)).block, (ad7.add (j * 6)).off + 5, none⟩ = some (.int .i64 x.f4.f1))) ∧ (W.cell? ⟨B9, 0, none⟩ = some (.slice D0 p0.length d0) ∧ W.cell? ⟨B9, 1, none⟩ = some (.slice D1 p1.length d1) ∧ W.cell? ⟨B9, 2, none⟩ = some (.slice D2 p2.length d2)))) (by kernel_rfl) ⟨⟨⟨hS13.cells.2.1, hS13.cells.2.2.2⟩, hF13.e0, hF13.e1, hF13.e2, hF13.e3, hF13.e4, hF13.e5⟩, blk_cell k9_13 0, blk_cell k9_13 1, blk_cell k9_13 2⟩ (fun hHeld => ?_)
  generalize w12.drew = w13 at *
  refine tkZ 0 (some 85) rfl rfl (v := ?a161) ?b161 ?c161
  case b161 => (intro W' hSw; (try dsimp only at hSw); go_simp; first | done | with_reducible rfl)
  simp only [Act.put, List.setIfInBounds_toArray, List.set_cons_zero, List.set_cons_succ]
  refine tkZ 1 (some 86) rfl rfl (v := ?a162) ?b162 ?c162
  case b162 => (intro W' hSw; (try dsimp only at hSw); go_simp; first | done | with_reducible rfl)
  simp only [Act.put, List.setIfInBounds_toArray, List.set_cons_zero, List.set_cons_succ]
  refine tkZ 2 (some 87) rfl rfl (v := ?a163) ?b163 ?c163
  case b163 => (intro W' hSw; (try dsimp only at hSw); go_simp; first | done | with_reducible rfl)
  simp only [Act.put, List.setIfInBounds_toArray, List.set_cons_zero, List.set_cons_succ]
  refine tkZ 3 (some 88) rfl rfl (v := ?a164) ?b164 ?c164
  case b164 => (intro W' hSw; (try dsimp only at hSw); go_simp; first | done | with_reducible rfl)
  simp only [Act.put, List.setIfInBounds_toArray, List.set_cons_zero, List.set_cons_succ]
  refine tkZ 4 (some 89) rfl rfl (v := ?a165) ?b165 ?c165
  case b165 => (intro W' hSw; (try dsimp only at hSw); go_simp; first | done | with_reducible rfl)
  simp only [Act.put, List.setIfInBounds_toArray, List.set_cons_zero, List.set_cons_succ]
  refine tkZ 5 (some 90) rfl rfl (v := ?a166) ?b166 ?c166
  case b166 => (intro W' hSw; (try dsimp only at hSw); go_simp; first | done | with_reducible rfl)
  simp only [Act.put, List.setIfInBounds_toArray, List.set_cons_zero, List.set_cons_succ]
  refine tkZ 6 (some 91) rfl rfl (v := ?a167) ?b167 ?c167
  case b167 => (intro W' hSw; (try dsimp only at hSw); go_simp; first | done | with_reducible rfl)
  simp only [Act.put, List.setIfInBounds_toArray, List.set_cons_zero, List.set_cons_succ]
  refine tkZ 7 (some 92) rfl rfl (v := ?a168) ?b168 ?c168
  case b168 => (intro W' hSw; (try dsimp only at hSw); go_simp; first | done | with_reducible rfl)
  simp only [Act.put, List.setIfInBounds_toArray, List.set_cons_zero, List.set_cons_succ]
  refine tkZ 8 (some 93) rfl rfl (v := ?a169) ?b169 ?c169
  case b169 => (intro W' hSw; (try dsimp only at hSw); go_simp; first | done | with_reducible rfl)
  simp only [Act.put, List.setIfInBounds_toArray, List.set_cons_zero, List.set_cons_succ]
  refine tkZ 9 (some 94) rfl rfl (v := ?a170) ?b170 ?c170
  case b170 => (intro W' hSw; (try dsimp only at hSw); go_simp; first | done | with_reducible rfl)
  simp only [Act.put, List.setIfInBounds_toArray, List.set_cons_zero, List.set_cons_succ]
  refine tkZ 10 (some 95) rfl rfl (v := ?a171) ?b171 ?c171
  case b171 => (intro W' hSw; (try dsimp only at hSw); go_simp; first | done | with_reducible rfl)
  simp only [Act.put, List.setIfInBounds_toArray, List.set_cons_zero, List.set_cons_succ]
  refine tkZ 11 (some 96) rfl rfl (v := ?a172) ?b172 ?c172
  case b172 => (intro W' hSw; (try dsimp only at hSw); go_simp; first | done | with_reducible rfl)
  simp only [Act.put, List.setIfInBounds_toArray, List.set_cons_zero, List.set_cons_succ]
  refine tkZ 12 (some 97) rfl rfl (v := ?a173) ?b173 ?c173
  case b173 => (intro W' hSw; (try dsimp only at hSw); go_simp; first | done | with_reducible rfl)
  simp only [Act.put, List.setIfInBounds_toArray, List.set_cons_zero, List.set_cons_succ]
  refine tkZ 13 (some 98) rfl rfl (v := ?a174) ?b174 ?c174
  case b174 => (intro W' hSw; (try dsimp only at hSw); go_simp; first | done | with_reducible rfl)
  simp only [Act.put, List.setIfInBounds_toArray, List.set_cons_zero, List.set_cons_succ]
  refine wpAnyH_ready (rs := [14]) (by kernel_rfl) (by simp) (AllReadyH.cons (at_drop rfl) (fun KC hKC => ?_) AllReadyH.nil)
  go_simp
  refine (r17_Slice.calls k A2_0 c2_0 l2_0 A2_1 c2_1 l2_1 A2_2 c2_2 l2_2 a2_6 a2_7 P0 q0 x.f0 P1 q1 x.f1 x.f2 x.f3 x.f4.f0 x.f4.f1 r0 r1 r2 _ (Kd.C_below hr2_0 hS13.below) hc2_0 (Kd.C_below hr2_1 hS13.below) hc2_1 (Kd.C_below hr2_2 hS13.below) hc2_2 hF13.g0 hF13.h0 hF13.g1 hF13.h1 HSL.out).mono ?_
  rintro e w14 ⟨u0, u1, u2, rfl, T0, T1, T2, hB14⟩
  obtain ⟨E0, g0, rfl⟩ := Kd.R_slice T0
  obtain ⟨E1, g1, rfl⟩ := Kd.R_slice T1
  obtain ⟨E2, g2, rfl⟩ := Kd.R_slice T2
  obtain ⟨-, hg0, X0⟩ := Kd.R_reads' T0
  obtain ⟨-, hg1, X1⟩ := Kd.R_reads' T1
  obtain ⟨-, hg2, X2⟩ := Kd.R_reads' T2
  have hS14 := hS13.next hB14
  have hF14 := hF13.next hB14
  have k9_14 := blk_below k9_13 hB14
  refine hKC.out _ _ ⟨⟨⟨hS14.cells.2.1, hS14.cells.2.2.2⟩, hF14.e0, hF14.e1, hF14.e2, hF14.e3, hF14.e4, hF14.e5⟩, blk_cell k9_14 0, blk_cell k9_14 1, blk_cell k9_14 2⟩ (fun hHeld => ?_)
  clear hKC KC
  try simp only [Act.put, List.setIfInBounds_toArray, List.set_cons_zero, List.set_cons_succ]
  refine wpAnyH_ready (rs := [15]) (by kernel_rfl) (by simp) (AllReadyH.cons (at_drop rfl) (fun KC hKC => ?_) AllReadyH.nil)
  go_simp
  refine (r17_SameColumn.calls k D0 d0 p0 D1 d1 p1 D2 d2 p2 E0 g0 r0 E1 g1 r1 E2 g2 r2 true _ (Kd.C_below C0 hB14) hd0 (Kd.C_below C1 hB14) hd1 (Kd.C_below C2 hB14) hd2 X0 hg0 X1 hg1 X2 hg2 HS.out).mono ?_
  rintro e w15 ⟨rfl, hB15⟩
  have hS15 := hS14.next hB15
  have hF15 := hF14.next hB15
  have k9_15 := blk_below k9_14 hB15
  refine hKC.out _ _ ⟨⟨⟨hS15.cells.2.1, hS15.cells.2.2.2⟩, hF15.e0, hF15.e1, hF15.e2, hF15.e3, hF15.e4, hF15.e5⟩, blk_cell k9_15 0, blk_cell k9_15 1, blk_cell k9_15 2⟩ (fun hHeld => ?_)
  clear hKC KC
  try simp only [Act.put, List.setIfInBounds_toArray, List.set_cons_zero, List.set_cons_succ]
  refine tkZ 16 (some 101) rfl rfl (v := ?a175) ?b175 ?c175
  case b175 => (intro W' hSw; (try dsimp only at hSw); go_simp; first | done | with_reducible rfl)
  simp only [Act.put, List.setIfInBounds_toArray, List.set_cons_zero, List.set_cons_succ]
  refine tkZ 17 (some 6) rfl rfl (v := ?a176) ?b176 ?c176
  case b176 => (intro W' hSw; (try dsimp only at hSw); go_simp; first | done | with_reducible rfl)
  simp only [Act.put, List.setIfInBounds_toArray, List.set_cons_zero, List.set_cons_succ]
  refine wpAnyH_done (by kernel_rfl) ?_ _
  go_wp2_with fail
  go_ret
  exact ⟨rfl, hS15.below⟩


end Go.Proofs.Yteokhlpleimnbaa.H
end
