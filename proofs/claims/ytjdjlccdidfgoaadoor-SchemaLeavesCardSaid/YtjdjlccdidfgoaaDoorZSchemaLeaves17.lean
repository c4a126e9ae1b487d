/- Texts of the claim, packed: H37. -/
import Derived.Lib.Hide
import Derived.Test.YtjdjlccdidfgoaaDoorZSchemaLeaves7
section
-- Laid by this session's hprint.py, out of the kit's print.py and texts of the session. Not trusted: Lean checks it.
namespace Go.Proofs.YtjdjlccdidfgoaaDoor.H
open Go.RowKit Go.Proofs.YtjdjlccdidfgoaaDoorW.PrintWords Go.Proofs.YtjdjlccdidfgoaaDoorW.PrintLast Go.Proofs.YtjdjlccdidfgoaaDoorW.PrintMore
attribute [local go_sem] max2_int min2_int max_two min_two max_three min_three max_four min_four   -- for this text's walks alone
set_option linter.unusedVariables false
set_option linter.unusedSimpArgs false

-- OVPART Derived.Lib.Hide
/-! ### api_Leaf_44: function 44 -/
/-- Where the first leaf of a path is; -1: nowhere. -/
def idxL : List S52 → List ByteArray → Nat → Int
  | [], _, _ => -1
  | x :: xs, p, k => if x.f0 = p then k else idxL xs p (k + 1)
theorem bytes_eq {a b : ByteArray} : a.toList = b.toList ↔ a = b := by
  rw [Lib.toList_data, Lib.toList_data]
  refine ⟨fun h => ?_, fun h => by rw [h]⟩
  cases a
  cases b
  simp only at h
  rw [Array.toList_inj.1 h]
theorem eqStr_l (x0 x1 : List ByteArray) (hl : x0.length = x1.length) (hm : x0.length ≤ 9223372036854775807) : ∀ (n i : Nat), x0.length - i ≤ n → i ≤ x0.length → slices_Equal_string_string.l0 (n + 1) x0 x1 (x0.length : Int) (i : Int) = some (decide (x0.drop i = x1.drop i))
  | n, i, hn, hi => by
    unfold slices_Equal_string_string.l0
    by_cases h : i < x0.length
    · have h1 : i < x1.length := hl ▸ h
      have e0 : rdOf ByteArray.empty x0 (i : Int) = x0[i] := by unfold rdOf; simp [List.getD, h]
      have e1 : rdOf ByteArray.empty x1 (i : Int) = x1[i] := by unfold rdOf; simp [List.getD, h1]
      rw [if_pos (by omega), if_pos (by omega), if_pos (by omega), if_pos (by omega), e0, e1, List.drop_eq_getElem_cons h, List.drop_eq_getElem_cons h1]
      by_cases hs : x0[i] = x1[i]
      · rw [if_pos (bytes_eq.2 hs), show wrap64 ((i : Int) + 1) = (i : Int) + 1 by unfold wrap64; omega]
        match n, hn with
        | 0, hn => omega
        | n + 1, hn =>
          have := eqStr_l x0 x1 hl hm n (i + 1) (by omega) (by omega)
          rw [show ((i : Int) + 1) = ((i + 1 : Nat) : Int) by omega, this]
          exact congrArg some (decide_eq_decide.2 ⟨fun e => by rw [hs, e], fun e => (List.cons.inj e).2⟩)
      · rw [if_neg (fun e => hs (bytes_eq.1 e))]
        exact congrArg some (decide_eq_false (fun e => hs (List.cons.inj e).1)).symm
    · rw [if_neg (by omega), List.drop_eq_nil_of_le (by omega), List.drop_eq_nil_of_le (by omega)]
      simp
theorem eqStr (x0 x1 : List ByteArray) (hm : x0.length ≤ 9223372036854775807) : slices_Equal_string_string.f (x0.length + 1) x0 x1 = some (decide (x0 = x1)) := by
  unfold slices_Equal_string_string.f
  by_cases hl : x0.length = x1.length
  · rw [if_pos (by omega)]
    have := eqStr_l x0 x1 hl hm x0.length 0 (by omega) (by omega)
    simpa using this
  · rw [if_neg (by omega), decide_eq_false (fun e => hl (by rw [e]))]
theorem idxL_at (l : List S52) (p : List ByteArray) (k : Nat) (h : k < l.length) : idxL (l.drop k) p k = if l[k].f0 = p then (k : Int) else idxL (l.drop (k + 1)) p (k + 1) := by
  rw [List.drop_eq_getElem_cons h]
  rfl
set_option maxHeartbeats 8000000 in
set_option maxRecDepth 100000 in
theorem find1_lv (b : Nat) (path : List ByteArray) (A2 : Option Addr) (c2 : Nat) (hc2 : path.length ≤ c2) (x : S52) (P0 P1 : Option Addr) (q0 q1 : Nat) (hq0 : x.f0.length ≤ q0) (W : World) (hbox : W.heap[b]? = some (.cells #[.slice A2 path.length c2] 44 (0, 0))) (hr2 : Kd.C Kd.string W A2 path.length path) (hr0 : Kd.C Kd.string W P0 x.f0.length x.f0) :
    Calls Tryd.prog 45 #[.agg #[.slice P0 x.f0.length q0, .slice P1 x.f1.length q1, .int .i64 x.f2, .int .i64 x.f3, .int .i64 x.f4.f0, .int .i64 x.f4.f1], .pointer (some ⟨b, 0, none⟩)] W fun e W' => e = .returned (.bool (decide (x.f0 = path))) ∧ Below W.heap.size W W' := by
  have hB0 : Below W.heap.size W (W.alloc (.cells #[.slice P0 x.f0.length q0, .slice P1 x.f1.length q1, .int .i64 x.f2, .int .i64 x.f3, .int .i64 x.f4.f0, .int .i64 x.f4.f1] 52)) := below_alloc (Below.refl _ _) _
  have hc := blk_cell (blk_below hbox hB0) 0
  have hk := blk_cell (blk_new W (.cells #[.slice P0 x.f0.length q0, .slice P1 x.f1.length q1, .int .i64 x.f2, .int .i64 x.f3, .int .i64 x.f4.f0, .int .i64 x.f4.f1] 52)) 0
  have HX0 := Lib.hid (Kd.C_below hr0 hB0)
  have HX2 := Lib.hid (Kd.C_below hr2 hB0)
  have HM := Lib.hid (Kd.C_max hr0)
  clear hr0 hr2 hbox
  go_enter Tryd.func45, Tryd.ntmps45
  go_wp2_with fail
  refine (slices_Equal_string_string.calls (x.f0.length + 1) P0 q0 x.f0 A2 c2 path _ _ HX0.out hq0 HX2.out hc2 (eqStr x.f0 path HM.out)).mono ?_
  rintro e w1 ⟨rfl, hD⟩
  have HB := Lib.hid (below_step hB0 hD.below)
  clear hD hB0 hc hk
  go_wp2_with fail
  go_ret
  exact ⟨rfl, HB.out⟩
set_option maxHeartbeats 8000000 in
set_option maxRecDepth 100000 in
theorem index_lv (b : Nat) (path : List ByteArray) (A2 : Option Addr) (c2 : Nat) (hc2 : path.length ≤ c2) (L : List S52) (A : Option Addr) (c : Nat) (w : World) (hr : Kd.C k52 w A L.length L) (hbox : w.heap[b]? = some (.cells #[.slice A2 path.length c2] 44 (0, 0))) (hr2 : Kd.C Kd.string w A2 path.length path) :
    Calls Tryd.prog 44 #[.slice A L.length c, .func (.func 45) #[] #[.pointer (some ⟨b, 0, none⟩)]] w fun e w' => e = .returned (.int .i64 (idxL L path 0)) ∧ Below w.heap.size w w' := by
  have hmax := Kd.C_max hr
  go_enter Tryd.func44, Tryd.ntmps44
  go_wp2
  go_loopw [8] (fun v wr => ∃ k : Nat, k ≤ L.length ∧ v = .int .i64 k ∧ idxL (L.drop k) path k = idxL L path 0 ∧ Below w.heap.size w wr) (fun v _ => L.length - (intOf v).toNat)
  case atStart => exact ⟨0, Nat.zero_le _, rfl, rfl, Below.refl _ _⟩
  case round =>
    obtain ⟨k, hk, rfl, he, hB⟩ := hrel
    by_cases hkn : k < L.length
    · rw [idxL_at L path k hkn] at he
      have hwk : IntKind.i64.wrap ((k : Int) + 1) = ((k + 1 : Nat) : Int) := by rw [IntKind.wrap_i64]; omega
      obtain ⟨ad, P0, q0, P1, q1, e0, hx0, hx1, hx2, hx3, hx4, hx5, ml0, mc0, ml1, mc1⟩ := at_T52 (Kd.C_below hr hB) (k : Int) (by omega) (by omega)
      cases e0
      have ex : rd_T52 L (k : Int) = L[k] := by unfold rd_T52; simp [List.getD, hkn]
      simp only [Int.toNat_natCast, ex] at hx0 hx1 hx2 hx3 hx4 hx5 ml0 mc0 ml1 mc1
      generalize L[k] = x at *
      have HC := Lib.hid (find1_lv b path A2 c2 hc2 x P0 P1 q0 q1 ml0 wr (blk_below hbox hB) (Kd.C_below hr2 hB) mc0)
      have HE := Lib.hid he
      have HB := Lib.hid hB
      have HR := Lib.hid hr
      clear he hB mc0 mc1 ml0 ml1 hr ex hr2
      obtain ⟨sd, hsd⟩ : ∃ sd, decide (x.f0 = path) = sd := ⟨_, rfl⟩
      rw [hsd] at HC
      have HSD := Lib.hid hsd
      clear hsd
      cases sd
      · go_wp2_with fail
        refine HC.out.mono ?_
        rintro e w2 ⟨rfl, hb2⟩
        have HI2 := Lib.hid (show idxL (L.drop (k + 1)) path (k + 1) = idxL L path 0 by have := HE.out; rwa [if_neg (of_decide_eq_false HSD.out)] at this)
        have HB2 := Lib.hid (below_step HB.out hb2)
        clear hb2
        go_wp2_with fail
        go_roundw
        case rel => exact ⟨k + 1, by omega, by go_num, HI2.out, HB2.out⟩
        case measure => simp [intOf]; omega
      · go_wp2_with fail
        refine HC.out.mono ?_
        rintro e w2 ⟨rfl, hb2⟩
        have HI2 := Lib.hid (show (k : Int) = idxL L path 0 by have := HE.out; rwa [if_pos (of_decide_eq_true HSD.out)] at this)
        have HB2 := Lib.hid (below_step HB.out hb2)
        clear hb2
        go_wp2_with fail
        go_ret
        exact ⟨by rw [← HI2.out]; rfl, HB2.out⟩
    · have hke : k = L.length := by omega
      have HI2 := Lib.hid (show idxL L path 0 = -1 by rw [← he, hke, List.drop_length]; rfl)
      have HB := Lib.hid hB
      clear he hB hr hr2
      go_wp2_with fail
      go_ret
      exact ⟨by rw [HI2.out]; rfl, HB.out⟩


end Go.Proofs.YtjdjlccdidfgoaaDoor.H
end
