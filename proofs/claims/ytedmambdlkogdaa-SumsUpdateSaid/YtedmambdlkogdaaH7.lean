-- Laid by this session's hprint.py, out of the kit's print.py and texts of the session. Not trusted: Lean checks it.
import Derived.Test.YtedmambdlkogdaaH0
import Derived.Laws.BitsAllLaws
import Derived.Lib.Hide
import Derived.WalkLawsBesides
import Derived.WalkSpells
namespace Go.Proofs.Ytedmambdlkogdaa.H
open Go.RowKit Go.Proofs.YtedmambdlkogdaaW.PrintWords Go.Proofs.YtedmambdlkogdaaW.PrintLast Go.Proofs.YtedmambdlkogdaaW.PrintMore
attribute [local go_sem] max2_int min2_int max_two min_two max_three min_three max_four min_four   -- for this text's walks alone
set_option linter.unusedVariables false
set_option linter.unusedSimpArgs false

-- OVPART Derived.WalkLawsBesides Derived.WalkSpells Derived.Laws.BitsAllLaws Derived.Lib.Hide
/-! ### sums_Text: function 21 -/
/-- A digit of 16. -/
def hexd (d : Nat) : Int := if d < 10 then 48 + d else 87 + d
def hex8 (n : Nat) : List Int := [hexd (n / 268435456 % 16), hexd (n / 16777216 % 16), hexd (n / 1048576 % 16), hexd (n / 65536 % 16), hexd (n / 4096 % 16), hexd (n / 256 % 16), hexd (n / 16 % 16), hexd (n % 16)]
def sums_Text.f (a0 : Int) : Option ByteArray := if 0 ≤ a0 ∧ a0 < 4294967296 then some (strOfNums (hex8 a0.toNat)) else none
theorem hex_at (d : Nat) (hd : d < 16) (w : World) : (Instr.index 9 (.string ⟨#[48, 49, 50, 51, 52, 53, 54, 55, 56, 57, 97, 98, 99, 100, 101, 102]⟩) (.int .u32 (d : Int))).run Try.prog w = .ok (.int .u8 (hexd d)) w := by
  match d, hd with
  | 0, _ => exact (by kernel_rfl : (Instr.index 9 (.string ⟨#[48, 49, 50, 51, 52, 53, 54, 55, 56, 57, 97, 98, 99, 100, 101, 102]⟩) (.int .u32 0)).run Try.prog w = .ok (.int .u8 48) w)
  | 1, _ => exact (by kernel_rfl : (Instr.index 9 (.string ⟨#[48, 49, 50, 51, 52, 53, 54, 55, 56, 57, 97, 98, 99, 100, 101, 102]⟩) (.int .u32 1)).run Try.prog w = .ok (.int .u8 49) w)
  | 2, _ => exact (by kernel_rfl : (Instr.index 9 (.string ⟨#[48, 49, 50, 51, 52, 53, 54, 55, 56, 57, 97, 98, 99, 100, 101, 102]⟩) (.int .u32 2)).run Try.prog w = .ok (.int .u8 50) w)
  | 3, _ => exact (by kernel_rfl : (Instr.index 9 (.string ⟨#[48, 49, 50, 51, 52, 53, 54, 55, 56, 57, 97, 98, 99, 100, 101, 102]⟩) (.int .u32 3)).run Try.prog w = .ok (.int .u8 51) w)
  | 4, _ => exact (by kernel_rfl : (Instr.index 9 (.string ⟨#[48, 49, 50, 51, 52, 53, 54, 55, 56, 57, 97, 98, 99, 100, 101, 102]⟩) (.int .u32 4)).run Try.prog w = .ok (.int .u8 52) w)
  | 5, _ => exact (by kernel_rfl : (Instr.index 9 (.string ⟨#[48, 49, 50, 51, 52, 53, 54, 55, 56, 57, 97, 98, 99, 100, 101, 102]⟩) (.int .u32 5)).run Try.prog w = .ok (.int .u8 53) w)
  | 6, _ => exact (by kernel_rfl : (Instr.index 9 (.string ⟨#[48, 49, 50, 51, 52, 53, 54, 55, 56, 57, 97, 98, 99, 100, 101, 102]⟩) (.int .u32 6)).run Try.prog w = .ok (.int .u8 54) w)
  | 7, _ => exact (by kernel_rfl : (Instr.index 9 (.string ⟨#[48, 49, 50, 51, 52, 53, 54, 55, 56, 57, 97, 98, 99, 100, 101, 102]⟩) (.int .u32 7)).run Try.prog w = .ok (.int .u8 55) w)
  | 8, _ => exact (by kernel_rfl : (Instr.index 9 (.string ⟨#[48, 49, 50, 51, 52, 53, 54, 55, 56, 57, 97, 98, 99, 100, 101, 102]⟩) (.int .u32 8)).run Try.prog w = .ok (.int .u8 56) w)
  | 9, _ => exact (by kernel_rfl : (Instr.index 9 (.string ⟨#[48, 49, 50, 51, 52, 53, 54, 55, 56, 57, 97, 98, 99, 100, 101, 102]⟩) (.int .u32 9)).run Try.prog w = .ok (.int .u8 57) w)
  | 10, _ => exact (by kernel_rfl : (Instr.index 9 (.string ⟨#[48, 49, 50, 51, 52, 53, 54, 55, 56, 57, 97, 98, 99, 100, 101, 102]⟩) (.int .u32 10)).run Try.prog w = .ok (.int .u8 97) w)
  | 11, _ => exact (by kernel_rfl : (Instr.index 9 (.string ⟨#[48, 49, 50, 51, 52, 53, 54, 55, 56, 57, 97, 98, 99, 100, 101, 102]⟩) (.int .u32 11)).run Try.prog w = .ok (.int .u8 98) w)
  | 12, _ => exact (by kernel_rfl : (Instr.index 9 (.string ⟨#[48, 49, 50, 51, 52, 53, 54, 55, 56, 57, 97, 98, 99, 100, 101, 102]⟩) (.int .u32 12)).run Try.prog w = .ok (.int .u8 99) w)
  | 13, _ => exact (by kernel_rfl : (Instr.index 9 (.string ⟨#[48, 49, 50, 51, 52, 53, 54, 55, 56, 57, 97, 98, 99, 100, 101, 102]⟩) (.int .u32 13)).run Try.prog w = .ok (.int .u8 100) w)
  | 14, _ => exact (by kernel_rfl : (Instr.index 9 (.string ⟨#[48, 49, 50, 51, 52, 53, 54, 55, 56, 57, 97, 98, 99, 100, 101, 102]⟩) (.int .u32 14)).run Try.prog w = .ok (.int .u8 101) w)
  | 15, _ => exact (by kernel_rfl : (Instr.index 9 (.string ⟨#[48, 49, 50, 51, 52, 53, 54, 55, 56, 57, 97, 98, 99, 100, 101, 102]⟩) (.int .u32 15)).run Try.prog w = .ok (.int .u8 102) w)
  | n + 16, h => exact absurd h (by omega)
def txt (n k : Nat) : Array Value := #[if 8 ≤ k then .int .u8 (hexd (n / 268435456 % 16)) else .int .u8 0, if 7 ≤ k then .int .u8 (hexd (n / 16777216 % 16)) else .int .u8 0, if 6 ≤ k then .int .u8 (hexd (n / 1048576 % 16)) else .int .u8 0, if 5 ≤ k then .int .u8 (hexd (n / 65536 % 16)) else .int .u8 0, if 4 ≤ k then .int .u8 (hexd (n / 4096 % 16)) else .int .u8 0, if 3 ≤ k then .int .u8 (hexd (n / 256 % 16)) else .int .u8 0, if 2 ≤ k then .int .u8 (hexd (n / 16 % 16)) else .int .u8 0, if 1 ≤ k then .int .u8 (hexd (n / 1 % 16)) else .int .u8 0]
theorem txt_zero (n : Nat) : txt n 0 = #[.int .u8 0, .int .u8 0, .int .u8 0, .int .u8 0, .int .u8 0, .int .u8 0, .int .u8 0, .int .u8 0] := rfl
set_option maxRecDepth 100000 in
set_option maxHeartbeats 2000000 in
theorem sums_Text.calls (a0 : Int) (r : ByteArray) (w : World) (h : sums_Text.f a0 = some r) :
    Calls Try.prog 21 #[.int .u32 a0] w fun e w' => e = .returned (.string r) ∧ Below w.heap.size w w' := by
  unfold sums_Text.f at h
  split at h
  case isFalse => simp at h
  case isTrue hpre =>
  obtain ⟨ha0, ha1⟩ := hpre
  obtain rfl := Option.some.inj h
  clear h
  obtain ⟨n, rfl⟩ := Int.eq_ofNat_of_zero_le ha0
  go_enter Try.func21, Try.ntmps21
  go_wp2
  go_loopw [5] (fun i wr => ∃ k : Nat, k ≤ 8 ∧ i = .int .i64 k ∧ wr.heap[w.heap.size]? = some (.cells (txt n k) 46 (0, 0)) ∧ Below w.heap.size w wr) (fun i _ => 8 - (intOf i).toNat)
  case atStart => exact ⟨0, by omega, rfl, blk_new w _, below_alloc (Below.refl _ _) _⟩
  case round =>
    obtain ⟨k, hk, rfl, hb, hB⟩ := hrel
    obtain ⟨_⟩ | rfl : k < 8 ∨ k = 8 := by omega
    · have hset : ∀ v, (wr.setCell ⟨w.heap.size, 7 - k, none⟩ v).heap[w.heap.size]? = some (.cells ((txt n k).setIfInBounds (7 - k) v) 46 (0, 0)) := fun v => blk_set hb _ v
      have hB2 : ∀ v, Below w.heap.size w (wr.setCell ⟨w.heap.size, 7 - k, none⟩ v) := fun v => hB.setCell (p := ⟨w.heap.size, 7 - k, none⟩) (Nat.le_refl _) v
      have hc : wr.cell? ⟨w.heap.size, 7 - k, none⟩ = some (.int .u8 0) := by
        rw [blk_cell hb]
        obtain rfl | rfl | rfl | rfl | rfl | rfl | rfl | rfl : k = 0 ∨ k = 1 ∨ k = 2 ∨ k = 3 ∨ k = 4 ∨ k = 5 ∨ k = 6 ∨ k = 7 := by omega
        all_goals rfl
      have hf : wr.frozen? ⟨w.heap.size, 7 - k, none⟩ = false := blk_frozen hb _
      have HS := Lib.hid hset
      have HB2 := Lib.hid hB2
      clear hset hB2
      obtain rfl | rfl | rfl | rfl | rfl | rfl | rfl | rfl : k = 0 ∨ k = 1 ∨ k = 2 ∨ k = 3 ∨ k = 4 ∨ k = 5 ∨ k = 6 ∨ k = 7 := by omega
      · have hx := hex_at (n / 1 % 16) (by omega) wr
        have hand : bits .and .u32 ((n : Int)) 15 = ((n / 1 % 16 : Nat) : Int) := by
          have h2 := u32_and_nat (n / 1) 15 (by omega) (by omega)
          rw [show (15 : Nat) = 2 ^ 4 - 1 from rfl, Nat.and_two_pow_sub_one_eq_mod] at h2
          simpa using h2
        obtain ⟨dg, hdg⟩ : ∃ dg, dg = n / 1 % 16 := ⟨_, rfl⟩
        rw [← hdg] at hx hand
        have HD := Lib.hid hdg
        clear hdg
        go_wp2
        refine ⟨⟨1, by omega, rfl, (HS.out _).trans ?_, HB2.out _⟩, by simp [intOf]⟩
        rw [HD.out]
        simp [txt]
      · have hx := hex_at (n / 16 % 16) (by omega) wr
        have hand : bits .and .u32 ((n : Int) / 16) 15 = ((n / 16 % 16 : Nat) : Int) := by
          have h2 := u32_and_nat (n / 16) 15 (by omega) (by omega)
          rw [show (15 : Nat) = 2 ^ 4 - 1 from rfl, Nat.and_two_pow_sub_one_eq_mod] at h2
          simpa using h2
        obtain ⟨dg, hdg⟩ : ∃ dg, dg = n / 16 % 16 := ⟨_, rfl⟩
        rw [← hdg] at hx hand
        have HD := Lib.hid hdg
        clear hdg
        go_wp2
        refine ⟨⟨2, by omega, rfl, (HS.out _).trans ?_, HB2.out _⟩, by simp [intOf]⟩
        rw [HD.out]
        simp [txt]
      · have hx := hex_at (n / 256 % 16) (by omega) wr
        have hand : bits .and .u32 ((n : Int) / 256) 15 = ((n / 256 % 16 : Nat) : Int) := by
          have h2 := u32_and_nat (n / 256) 15 (by omega) (by omega)
          rw [show (15 : Nat) = 2 ^ 4 - 1 from rfl, Nat.and_two_pow_sub_one_eq_mod] at h2
          simpa using h2
        obtain ⟨dg, hdg⟩ : ∃ dg, dg = n / 256 % 16 := ⟨_, rfl⟩
        rw [← hdg] at hx hand
        have HD := Lib.hid hdg
        clear hdg
        go_wp2
        refine ⟨⟨3, by omega, rfl, (HS.out _).trans ?_, HB2.out _⟩, by simp [intOf]⟩
        rw [HD.out]
        simp [txt]
      · have hx := hex_at (n / 4096 % 16) (by omega) wr
        have hand : bits .and .u32 ((n : Int) / 4096) 15 = ((n / 4096 % 16 : Nat) : Int) := by
          have h2 := u32_and_nat (n / 4096) 15 (by omega) (by omega)
          rw [show (15 : Nat) = 2 ^ 4 - 1 from rfl, Nat.and_two_pow_sub_one_eq_mod] at h2
          simpa using h2
        obtain ⟨dg, hdg⟩ : ∃ dg, dg = n / 4096 % 16 := ⟨_, rfl⟩
        rw [← hdg] at hx hand
        have HD := Lib.hid hdg
        clear hdg
        go_wp2
        refine ⟨⟨4, by omega, rfl, (HS.out _).trans ?_, HB2.out _⟩, by simp [intOf]⟩
        rw [HD.out]
        simp [txt]
      · have hx := hex_at (n / 65536 % 16) (by omega) wr
        have hand : bits .and .u32 ((n : Int) / 65536) 15 = ((n / 65536 % 16 : Nat) : Int) := by
          have h2 := u32_and_nat (n / 65536) 15 (by omega) (by omega)
          rw [show (15 : Nat) = 2 ^ 4 - 1 from rfl, Nat.and_two_pow_sub_one_eq_mod] at h2
          simpa using h2
        obtain ⟨dg, hdg⟩ : ∃ dg, dg = n / 65536 % 16 := ⟨_, rfl⟩
        rw [← hdg] at hx hand
        have HD := Lib.hid hdg
        clear hdg
        go_wp2
        refine ⟨⟨5, by omega, rfl, (HS.out _).trans ?_, HB2.out _⟩, by simp [intOf]⟩
        rw [HD.out]
        simp [txt]
      · have hx := hex_at (n / 1048576 % 16) (by omega) wr
        have hand : bits .and .u32 ((n : Int) / 1048576) 15 = ((n / 1048576 % 16 : Nat) : Int) := by
          have h2 := u32_and_nat (n / 1048576) 15 (by omega) (by omega)
          rw [show (15 : Nat) = 2 ^ 4 - 1 from rfl, Nat.and_two_pow_sub_one_eq_mod] at h2
          simpa using h2
        obtain ⟨dg, hdg⟩ : ∃ dg, dg = n / 1048576 % 16 := ⟨_, rfl⟩
        rw [← hdg] at hx hand
        have HD := Lib.hid hdg
        clear hdg
        go_wp2
        refine ⟨⟨6, by omega, rfl, (HS.out _).trans ?_, HB2.out _⟩, by simp [intOf]⟩
        rw [HD.out]
        simp [txt]
      · have hx := hex_at (n / 16777216 % 16) (by omega) wr
        have hand : bits .and .u32 ((n : Int) / 16777216) 15 = ((n / 16777216 % 16 : Nat) : Int) := by
          have h2 := u32_and_nat (n / 16777216) 15 (by omega) (by omega)
          rw [show (15 : Nat) = 2 ^ 4 - 1 from rfl, Nat.and_two_pow_sub_one_eq_mod] at h2
          simpa using h2
        obtain ⟨dg, hdg⟩ : ∃ dg, dg = n / 16777216 % 16 := ⟨_, rfl⟩
        rw [← hdg] at hx hand
        have HD := Lib.hid hdg
        clear hdg
        go_wp2
        refine ⟨⟨7, by omega, rfl, (HS.out _).trans ?_, HB2.out _⟩, by simp [intOf]⟩
        rw [HD.out]
        simp [txt]
      · have hx := hex_at (n / 268435456 % 16) (by omega) wr
        have hand : bits .and .u32 ((n : Int) / 268435456) 15 = ((n / 268435456 % 16 : Nat) : Int) := by
          have h2 := u32_and_nat (n / 268435456) 15 (by omega) (by omega)
          rw [show (15 : Nat) = 2 ^ 4 - 1 from rfl, Nat.and_two_pow_sub_one_eq_mod] at h2
          simpa using h2
        obtain ⟨dg, hdg⟩ : ∃ dg, dg = n / 268435456 % 16 := ⟨_, rfl⟩
        rw [← hdg] at hx hand
        have HD := Lib.hid hdg
        clear hdg
        go_wp2
        refine ⟨⟨8, by omega, rfl, (HS.out _).trans ?_, HB2.out _⟩, by simp [intOf]⟩
        rw [HD.out]
        simp [txt]
    · have hcv : (convert 22 9 (.slice (some ⟨w.heap.size, 0, none⟩) 8 8)).run Try.prog wr = .ok (.string (strOfNums (hex8 n))) wr := by
        refine run_convert_bytes_arg wr 22 5 Try.underlying22 Try.underlying5 w.heap.size 0 8 8 (hex8 n) rfl (fun i hi => ?_) 9 Try.underlying9
        rw [show (⟨w.heap.size, 0 + i, none⟩ : Addr) = ⟨w.heap.size, i, none⟩ by simp, blk_cell hb]
        obtain rfl | rfl | rfl | rfl | rfl | rfl | rfl | rfl : i = 0 ∨ i = 1 ∨ i = 2 ∨ i = 3 ∨ i = 4 ∨ i = 5 ∨ i = 6 ∨ i = 7 := by omega
        all_goals simp [txt, hex8]
      go_wp2
      go_ret
      exact ⟨by simp, hB⟩


end Go.Proofs.Ytedmambdlkogdaa.H
