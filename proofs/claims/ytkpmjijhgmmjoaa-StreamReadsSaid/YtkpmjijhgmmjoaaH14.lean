-- Laid by this session's hprint.py, out of the kit's print.py and texts of the session. Not trusted: Lean checks it.
import Derived.Test.YtkpmjijhgmmjoaaH0
import Derived.Test.YtkpmjijhgmmjoaaH5
import Derived.Test.YtkpmjijhgmmjoaaH6
import Derived.Test.YtkpmjijhgmmjoaaH9
import Derived.Test.YtkpmjijhgmmjoaaH10
import Derived.Test.YtkpmjijhgmmjoaaH12
import Derived.Test.YtkpmjijhgmmjoaaH13
import Derived.Lib.Hide
namespace Go.Proofs.Ytkpmjijhgmmjoaa.H
open Go.RowKit Go.Proofs.YtkpmjijhgmmjoaaW.PrintWords Go.Proofs.YtkpmjijhgmmjoaaW.PrintLast Go.Proofs.YtkpmjijhgmmjoaaW.PrintMore
attribute [local go_sem] max2_int min2_int max_two min_two max_three min_three max_four min_four   -- for this text's walks alone
set_option linter.unusedVariables false
set_option linter.unusedSimpArgs false

-- OVPART Derived.Lib.Hide
/-! ### marquetrylaw15_StreamWrites: function 3 -/
def marquetrylaw15_StreamWrites.f (k : Nat) (a0 : Int) (l1 : List Int) : Option Bool := if (l1.length : Int) > 10000 then some true else (stream_Write.f a0 l1).bind fun a => (marquetryref15_Write.f k a0 l1).bind fun b => if a = b then some true else none
theorem write_len {a0 : Int} {l a : List Int} {e : Int} (h : stream_Write.f a0 l = some (a, e)) : a.length ≤ l.length := by
  unfold stream_Write.f at h
  obtain ⟨t, _, h⟩ := Option.bind_eq_some_iff.mp h
  split at h <;> simp only [Option.some.injEq, Prod.mk.injEq] at h <;> obtain ⟨rfl, rfl⟩ := h
  · rw [Go.Proofs.YtkpmjijhgmmjoaaP.laid_len]; exact Nat.le_refl _
  · simp
set_option maxRecDepth 100000 in
set_option maxHeartbeats 4000000 in
theorem marquetrylaw15_StreamWrites.calls (k : Nat) (a0 : Int) (A1 : Option Addr) (c1 : Nat) (l1 : List Int) (r : Bool) (w : World) (hr1 : Kd.C (Kd.int .u8) w A1 l1.length l1) (hc1 : l1.length ≤ c1) (h : marquetrylaw15_StreamWrites.f k a0 l1 = some r) :
    Calls Try.prog 3 #[.int .i64 a0, .slice A1 l1.length c1] w fun e w' => e = .returned (.bool r) ∧ Below w.heap.size w w' := by
  unfold marquetrylaw15_StreamWrites.f at h
  by_cases hb : (l1.length : Int) > 10000
  · rw [if_pos hb] at h
    obtain rfl := Option.some.inj h
    clear h
    have hb0 : decide (10000 < (l1.length : Int)) = true := decide_eq_true hb
    have hb1 : decide (10000 < l1.length) = true := decide_eq_true (by omega)
    go_enter Try.func3, Try.ntmps3
    go_wp2_with fail
    refine (marquetrylaw15_works.calls true _ rfl).mono ?_
    rintro e w1 ⟨rfl, hB⟩
    go_wp2_with fail
    go_ret
    exact ⟨rfl, hB⟩
  · rw [if_neg hb] at h
    obtain ⟨⟨a, ea⟩, ha, h⟩ := Option.bind_eq_some_iff.mp h
    obtain ⟨b, hb2, h⟩ := Option.bind_eq_some_iff.mp h
    split at h
    case isFalse => simp at h
    case isTrue hab =>
    subst hab
    obtain rfl := Option.some.inj h
    clear h
    have hb0 : decide (10000 < (l1.length : Int)) = false := decide_eq_false hb
    have hb1 : decide (10000 < l1.length) = false := decide_eq_false (by omega)
    have hlen : l1.length ≤ 10000 := by omega
    have HA := Lib.hid ha
    have HA2 := Lib.hid hb2
    clear ha hb2 hb
    go_enter Try.func3, Try.ntmps3
    go_wp2_with fail
    refine (lent_full A1 c1 l1 w hr1 hc1 (by omega)).mono ?_
    rintro e w1 ⟨g, c, rfl, hR1, hB1⟩
    have hm1 := (Kd.R_reads' hR1).2.2
    have hcc : l1.length + 1 ≤ c := by have := (Kd.R_reads' hR1).2.1; simpa using this
    have ht1 := Kd.C_take (m := l1.length) hm1 (by simp)
    rw [List.take_left] at ht1
    have hl1 := Kd.C_below hr1 hB1
    clear hR1
    go_wp2_with fail
    refine (stream_Write.calls a0 (some ⟨g, 0, none⟩) c l1 a ea w1 ht1 (by omega) HA.out).mono ?_
    rintro e w2 ⟨v2, rfl, hR2, hB2⟩
    have hm2 := Kd.C_below hm1 hB2
    have hl2 := Kd.C_below hl1 hB2
    have hB02 : Below w.heap.size w w2 := below_step hB1 hB2
    have HM1 := Lib.hid hm1
    have HL1 := Lib.hid hl1
    clear hm1 hl1 ht1
    go_wp2_with fail
    refine (marquetryref15_Write.calls k a0 A1 c1 l1 a ea w2 hl2 hc1 HA2.out).mono ?_
    rintro e w3 ⟨v3, rfl, hR3, hB3⟩
    have hm3 := Kd.C_below hm2 hB3
    have hl3 := Kd.C_below hl2 hB3
    have hR23 := Kd.R_below hR2 hB3
    have hB03 : Below w.heap.size w w3 := below_step hB02 hB3
    have hB13 : Below w1.heap.size w1 w3 := below_step hB2 hB3
    obtain ⟨A2, c2, rfl, hc2, hC2⟩ := Kd.R_reads hR23
    obtain ⟨A3, c3, rfl, hc3, hC3⟩ := Kd.R_reads hR3
    have hs2 := Kd.C_string (P := Try.prog) (A := A2) (c := c2) Try.underlying22 Try.underlying5 Try.underlying9 hC2
    have hs3 := Kd.C_string (P := Try.prog) (A := A3) (c := c3) Try.underlying22 Try.underlying5 Try.underlying9 hC3
    clear hm2 hl2 hR2 hB3 hB02 hB2 hR3 hC3
    go_wp2_with fail
    refine (marquetrylaw15_num.calls ea ea _ rfl).mono ?_
    rintro e w4 ⟨rfl, hB4⟩
    have hR4 := Kd.R_below hR23 hB4
    have hB04 : Below w.heap.size w w4 := below_step hB03 hB4
    have hB14 : Below w1.heap.size w1 w4 := below_step hB13 hB4
    have hsz := hB1.size
    have hal := write_len HA.out
    clear hm3 hl3 hR23 hB03 hB13 hB4 hs2 hs3 hC2
    go_wp2_with fail
    obtain ⟨n, hn⟩ : ∃ n, n = a.length := ⟨_, rfl⟩
    rw [← hn] at hal hR4 ⊢
    have hR0 : ∃ xs : List Int, xs.length = n ∧ Kd.R (Kd.int .u8) 5 w4 w1.heap.size (fun _ => True) (.slice A2 n c2) xs := ⟨a, hn.symm, hR4⟩
    clear hR4 hn
    go_loopw [10] (fun i wr => ∃ k : Nat, k ≤ n ∧ i = .int .i64 k ∧ (∃ xs : List Int, xs.length = n ∧ Kd.R (Kd.int .u8) 5 wr w1.heap.size (fun _ => True) (.slice A2 n c2) xs) ∧ Below w1.heap.size w1 wr) (fun i _ => n - (intOf i).toNat)
    case atStart => exact ⟨0, Nat.zero_le _, rfl, hR0, hB14⟩
    case round =>
      obtain ⟨k, hk, rfl, ⟨xs, hxs, hRx⟩, hBr⟩ := hrel
      by_cases hlt : k < n
      · obtain ⟨inner, hown⟩ := Kd.R_own hRx
        obtain ⟨g2, c2', e2, hg1, hg2⟩ := World.ownsRow.form hown (by omega)
        obtain rfl : A2 = some ⟨g2, 0, none⟩ := by injection e2
        clear e2
        have hRx' : Kd.R (Kd.int .u8) 5 wr w1.heap.size (fun _ => True) (.slice (some ⟨g2, 0, none⟩) xs.length c2) xs := by rw [hxs]; exact hRx
        obtain ⟨hcell, hfro⟩ := Kd.R_cell (0 : Int) hRx' (k : Int) (by omega) (by omega)
        have hput : ∀ x : Int, Kd.R (Kd.int .u8) 5 (wr.setCell ⟨g2, k, none⟩ (.int .u8 x)) w1.heap.size (fun _ => True) (.slice (some ⟨g2, 0, none⟩) n c2) (xs.set k x) := fun x => by
          have := (Kd.R_put hRx' (k : Int) x).1
          rw [hxs] at this
          exact this
        have HP := Lib.hid hput
        obtain ⟨q, hq⟩ : ∃ q, q = rdOf (0 : Int) xs (k : Int) := ⟨_, rfl⟩
        rw [← hq] at hcell
        simp only [Int.toNat_natCast] at hcell hfro
        have HX := Lib.hid hxs
        clear hput hq hown hRx hRx' hxs
        go_wp2_with fail
        go_roundw
        case rel => exact ⟨k + 1, by omega, by go_num, ⟨xs.set k _, by rw [List.length_set]; exact HX.out, HP.out _⟩, hBr.setCell (p := ⟨g2, k, none⟩) (by exact hg1) _⟩
        case measure => simp [intOf]; omega
      · have hmr := Kd.C_below (w := w1) (w1 := wr) HM1.out hBr
        have hlr := Kd.C_below HL1.out hBr
        have hBw : Below w.heap.size w wr := below_step hB1 hBr
        have HX := Lib.hid hxs
        clear hRx hxs
        go_wp2_with fail
        refine (kept_full g c l1 A1 c1 wr hmr hcc hlr (by omega)).mono ?_
        rintro e w5 ⟨rfl, hD5⟩
        have hB05 : Below w.heap.size w w5 := below_step hBw hD5.below
        clear hmr hlr hD5
        go_wp2_with fail
        refine (marquetrylaw15_works.calls true _ rfl).mono ?_
        rintro e w6 ⟨rfl, hB6⟩
        have hB06 : Below w.heap.size w w6 := below_step hB05 hB6
        go_wp2_with fail
        go_ret
        exact ⟨rfl, hB06⟩


end Go.Proofs.Ytkpmjijhgmmjoaa.H
