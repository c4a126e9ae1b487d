/- Texts of the claim, packed: H19. -/
import Derived.Lib.Hide
import Derived.ScopeJumps
import Derived.WalkMore
import Derived.Test.YtnbmgljcnbhinaaDoorZRecordsCheck7
import Derived.Test.YtnbmgljcnbhinaaDoorZRecordsCheck10
import Derived.Test.YtnbmgljcnbhinaaDoorZRecordsCheck11
import Derived.Test.YtnbmgljcnbhinaaDoorZRecordsCheck12
import Derived.Test.YtnbmgljcnbhinaaDoorZRecordsCheck13
section
-- Laid by this session's hprint.py, out of the kit's print.py and texts of the session. Not trusted: Lean checks it.
namespace Go.Proofs.YtnbmgljcnbhinaaDoor.H
open Go.RowKit Go.Proofs.YtnbmgljcnbhinaaDoorW.PrintWords Go.Proofs.YtnbmgljcnbhinaaDoorW.PrintLast Go.Proofs.YtnbmgljcnbhinaaDoorW.PrintMore
attribute [local go_sem] max2_int min2_int max_two min_two max_three min_three max_four min_four   -- for this text's walks alone
set_option linter.unusedVariables false
set_option linter.unusedSimpArgs false

-- OVPART Derived.Lib.Hide Derived.WalkMore Derived.ScopeJumps
/-! ### records_Check: function 8 -/
/-- How many values have been counted, when it is given up. -/
def tots_ : List S42 → Int → Int
  | [], t => t
  | r :: rs, t => if t + ((min (numF r.f0) 1048576 : Nat) : Int) > 65536 then t + ((min (numF r.f0) 1048576 : Nat) : Int) else tots_ rs (t + ((min (numF r.f0) 1048576 : Nat) : Int))
/-- All records are of the nodes. -/
def allB (ns : List S64) (l : List S42) : Int := if l.all (fun r => ofB ns r.f0) = true then 0 else 270
theorem allB_cons (ns : List S64) (r : S42) (l : List S42) : allB ns (r :: l) = if ofB ns r.f0 = true then allB ns l else 270 := by
  unfold allB
  rw [List.all_cons]
  cases ofB ns r.f0 <;> simp
def records_Check.f (a0_0 : ByteArray) (l0_1 : List S64) (l1 : List S42) : Option Int :=
  (schema_Check.f a0_0 l0_1).bind fun e => if e ≠ 0 then some e else if l1.length > 65536 ∨ tots_ l1 0 > 65536 then some 3 else some (allB l0_1 l1)
set_option maxHeartbeats 8000000 in
set_option maxRecDepth 100000 in
theorem records_Check.calls (a0_0 : ByteArray) (A0_1 : Option Addr) (c0_1 : Nat) (l0_1 : List (S64)) (A1 : Option Addr) (c1 : Nat) (l1 : List (S42)) (r : Int) (w : World) (hr0_1 : Kd.C k64 w A0_1 l0_1.length l0_1) (hc0_1 : l0_1.length ≤ c0_1) (hr1 : Kd.C k42 w A1 l1.length l1) (hc1 : l1.length ≤ c1) (h : records_Check.f a0_0 l0_1 l1 = some r) (hT_ : Tabs_ w := by repeat (first | exact hT_ | exact Tabs_.below hT_ HB.out | exact Tabs_.below hT_ HB | with_reducible refine Tabs_.alloc ?_ _ | with_reducible refine Tabs_.drewN ?_ _ | with_reducible refine Tabs_.drew ?_)) :
    Calls Tryd.prog 8 #[.agg #[.string a0_0, .slice A0_1 l0_1.length c0_1], .slice A1 l1.length c1] w fun e w' => e = .returned (.int .i64 r) ∧ Below w.heap.size w w' := by
  unfold records_Check.f at h
  obtain ⟨e0, he0, h1⟩ := Option.bind_eq_some_iff.mp h
  clear h
  have HE := Lib.hid he0
  have HT := Lib.hid hT_
  have HMX := Lib.hid (Kd.C_max hr1)
  clear he0 hT_
  have hsb := blk_new w (.cells #[.string a0_0, .slice A0_1 l0_1.length c0_1] 24)
  have hB0 := below_alloc (Below.refl w.heap.size w) (.cells #[.string a0_0, .slice A0_1 l0_1.length c0_1] 24)
  go_enter Tryd.func8, Tryd.ntmps8
  go_wp2_with fail
  refine wp_scope_jumps 0 (fun a w' => (∃ v0 v1 v2 v3 v5 v6 v7 v8 v9 v10 v11 v12 v13 v14 v15 v16 v17 v18 v19 v20 v21 v22 v23 v24 v25 v26 v27 v28 v29 v30 v31 v32 v33 v34 v35 v36 v37 v38 v39 v40 v41 v42 v43 v44 v45 v46 v47 : Value, a = { tmps := #[v0, v1, v2, v3, .int .i64 r, v5, v6, v7, v8, v9, v10, v11, v12, v13, v14, v15, v16, v17, v18, v19, v20, v21, v22, v23, v24, v25, v26, v27, v28, v29, v30, v31, v32, v33, v34, v35, v36, v37, v38, v39, v40, v41, v42, v43, v44, v45, v46, v47], defers := [] }) ∧ Below w.heap.size w w') (fun _ _ => 0) rfl ?first ?pass
  case pass =>
    rintro a w' ⟨⟨v0, v1, v2, v3, v5, v6, v7, v8, v9, v10, v11, v12, v13, v14, v15, v16, v17, v18, v19, v20, v21, v22, v23, v24, v25, v26, v27, v28, v29, v30, v31, v32, v33, v34, v35, v36, v37, v38, v39, v40, v41, v42, v43, v44, v45, v46, v47, rfl⟩, hb⟩
    go_wp2_with fail
    simp only [Exit.jump]
    go_ret
    exact ⟨rfl, hb⟩
  case first =>
    go_wp2_with fail
    refine (schema_Check.calls a0_0 A0_1 c0_1 l0_1 e0 _ (Kd.C_below hr0_1 hB0) hc0_1 HE.out (HT.out.below hB0)).mono ?_
    rintro e w2 ⟨rfl, hb2⟩
    have hB2 := below_step hB0 hb2
    have hs2 := blk_below hsb hb2
    clear hb2 hB0 hsb
    by_cases he : e0 = 0
    case neg =>
      rw [if_pos he] at h1
      obtain rfl := Option.some.inj h1
      have hne : (e0 != 0) = true := bne_iff_ne.mpr he
      clear he
      go_wp2_with fail
      apply wp_goto
      refine And.intro rfl (And.intro ?_ hB2)
      exact ⟨_, _, _, _, _, _, _, _, _, _, _, _, _, _, _, _, _, _, _, _, _, _, _, _, _, _, _, _, _, _, _, _, _, _, _, _, _, _, _, _, _, _, _, _, _, _, _, rfl⟩
    subst he
    rw [if_neg (by decide)] at h1
    have H1 := Lib.hid h1
    clear h1
    obtain ⟨bl, hbl⟩ : ∃ b, decide ((65536 : Int) < (l1.length : Int)) = b := ⟨_, rfl⟩
    have HBL := Lib.hid hbl
    go_wp2_with fail
    go_loopw [16, 5] (fun v v5 wr => ∃ (i : Nat) (t : Int), i ≤ l1.length ∧ v = .int .i64 i ∧ v5 = .int .i64 t ∧ 0 ≤ t ∧ t ≤ 65536 ∧ tots_ (l1.drop i) t = tots_ l1 0 ∧ Below w.heap.size w wr ∧ wr.heap[w.heap.size]? = some (.cells #[.string a0_0, .slice A0_1 l0_1.length c0_1] 24 (0, 0))) (fun v v5 _ => l1.length - (intOf v).toNat)
    case atStart => exact ⟨0, 0, Nat.zero_le _, rfl, rfl, by omega, by omega, rfl, hB2, hs2⟩
    case round =>
      clear hB2 hs2
      obtain ⟨i, t, hi, rfl, rfl, ht0, ht1, htt, hB3, hs3⟩ := hrel
      by_cases hlt : i < l1.length
      case pos =>
        have hwk : IntKind.i64.wrap ((i : Int) + 1) = (i : Int) + 1 := by rw [IntKind.wrap_i64]; have := HMX.out; omega
        rw [List.drop_eq_getElem_cons hlt, tots_] at htt
        obtain ⟨ad, P, q, e1, hx0, ml, mc⟩ := at_T42 hr1 (i : Int) (by omega) (by omega)
        cases e1
        have ex : rd_T42 l1 (i : Int) = l1[i] := by unfold rd_T42; simp [List.getD, hlt]
        simp only [Int.toNat_natCast, ex] at hx0 ml mc
        generalize l1[i] = x at *
        clear ex
        replace hx0 := (hB3.cell (World.block_lt_of_cell? w _ hx0)).trans hx0
        have hm : (min (numF x.f0) 1048576 : Nat) ≤ 1048576 := Nat.min_le_right _ _
        have HSZ : Hid (records_Size.f x.f0 = some ((min (numF x.f0) 1048576 : Nat) : Int)) := Lib.hid rfl
        generalize (min (numF x.f0) 1048576 : Nat) = m at htt hm HSZ
        obtain ⟨T, hT⟩ : ∃ T : Int, T = t + (m : Int) := ⟨_, rfl⟩
        have hwt : IntKind.i64.wrap (t + (m : Int)) = T := by rw [IntKind.wrap_i64]; omega
        rw [← hT] at htt
        have HTT := Lib.hid htt
        have HTB := Lib.hid (show 0 ≤ T by omega)
        have hBa := below_alloc hB3 (.cells #[.slice P x.f0.length q] 42)
        have hsa := blk_alloc hs3 (.cells #[.slice P x.f0.length q] 42)
        have hca := blk_cell (blk_new wr (.cells #[.slice P x.f0.length q] 42)) 0
        clear htt hT ht0 ht1 hm hB3 hs3
        go_wp2_with fail
        refine (records_Size.calls P q x.f0 (m : Int) _ (Kd.C_below mc hBa) ml HSZ.out).mono ?_
        rintro e w4 ⟨rfl, hb4⟩
        have hB4 := below_step hBa hb4
        have hs4 := blk_below hsa hb4
        clear hb4 hBa hsa hca
        by_cases hbig : 65536 < T
        case pos =>
          have hbb : decide (65536 < T) = true := decide_eq_true hbig
          have HR := Lib.hid (show r = 3 by
            have h := H1.out
            have ht := HTT.out
            rw [if_pos (show T > 65536 from hbig)] at ht
            rw [if_pos (.inr (by rw [← ht]; exact hbig))] at h
            exact (Option.some.inj h).symm)
          clear hbig H1
          obtain rfl := HR.out
          cases bl
          · have hbl2 : decide ((65536 : Int) < (l1.length : Int)) = false := HBL.out
            go_wp2_with fail
            apply wp_goto
            refine And.intro rfl (And.intro ?_ hB4)
            exact ⟨_, _, _, _, _, _, _, _, _, _, _, _, _, _, _, _, _, _, _, _, _, _, _, _, _, _, _, _, _, _, _, _, _, _, _, _, _, _, _, _, _, _, _, _, _, _, _, rfl⟩
          · have hbl2 : decide ((65536 : Int) < (l1.length : Int)) = true := HBL.out
            go_wp2_with fail
            apply wp_goto
            refine And.intro rfl (And.intro ?_ hB4)
            exact ⟨_, _, _, _, _, _, _, _, _, _, _, _, _, _, _, _, _, _, _, _, _, _, _, _, _, _, _, _, _, _, _, _, _, _, _, _, _, _, _, _, _, _, _, _, _, _, _, rfl⟩
        case neg =>
          have hbb : decide (65536 < T) = false := decide_eq_false hbig
          have HR := Lib.hid (show tots_ (l1.drop (i + 1)) T = tots_ l1 0 by
            have ht := HTT.out
            rw [if_neg (show ¬ T > 65536 from hbig)] at ht
            exact ht)
          have HBG := Lib.hid hbig
          clear hbig
          go_wp2_with fail
          go_roundw
          case rel => exact ⟨i + 1, T, by omega, by go_num, rfl, HTB.out, by have := HBG.out; omega, HR.out, hB4, hs4⟩
          case measure => simp [intOf]; omega
      case neg =>
        have hie : i = l1.length := by omega
        have HTT := Lib.hid (show t = tots_ l1 0 by rw [← htt, hie, List.drop_length, tots_])
        have hbt : decide (65536 < t) = false := decide_eq_false (by omega)
        clear hie htt
        cases bl
        case true =>
          have hbl2 : decide ((65536 : Int) < (l1.length : Int)) = true := HBL.out
          have HR := Lib.hid (show r = 3 by
            have h := H1.out
            have hb := of_decide_eq_true HBL.out
            rw [if_pos (.inl (by omega))] at h
            exact (Option.some.inj h).symm)
          clear H1
          obtain rfl := HR.out
          go_wp2_with fail
          apply wp_goto
          refine And.intro rfl (And.intro ?_ hB3)
          exact ⟨_, _, _, _, _, _, _, _, _, _, _, _, _, _, _, _, _, _, _, _, _, _, _, _, _, _, _, _, _, _, _, _, _, _, _, _, _, _, _, _, _, _, _, _, _, _, _, rfl⟩
        case false =>
        have hbl2 : decide ((65536 : Int) < (l1.length : Int)) = false := HBL.out
        have HR := Lib.hid (show allB l0_1 l1 = r by
          have h := H1.out
          have hb := of_decide_eq_false HBL.out
          rw [if_neg (by rintro (h1 | h1); omega; rw [← HTT.out] at h1; omega)] at h
          exact Option.some.inj h)
        clear H1 hbl HTT ht0 ht1
        go_wp2_with fail
        go_loopw [36] (fun v wr => ∃ i : Nat, i ≤ l1.length ∧ v = .int .i64 i ∧ allB l0_1 (l1.drop i) = r ∧ Below w.heap.size w wr ∧ wr.heap[w.heap.size]? = some (.cells #[.string a0_0, .slice A0_1 l0_1.length c0_1] 24 (0, 0))) (fun v _ => l1.length - (intOf v).toNat)
        case atStart => exact ⟨0, Nat.zero_le _, rfl, HR.out, hB3, hs3⟩
        case round =>
          clear hB3 hs3 HR
          obtain ⟨i, hi, rfl, ha, hB5, hs5⟩ := hrel
          by_cases hlt : i < l1.length
          case pos =>
            have hwk : IntKind.i64.wrap ((i : Int) + 1) = (i : Int) + 1 := by rw [IntKind.wrap_i64]; have := HMX.out; omega
            rw [List.drop_eq_getElem_cons hlt, allB_cons] at ha
            obtain ⟨ad, P, q, e1, hx0, ml, mc⟩ := at_T42 hr1 (i : Int) (by omega) (by omega)
            cases e1
            have ex : rd_T42 l1 (i : Int) = l1[i] := by unfold rd_T42; simp [List.getD, hlt]
            simp only [Int.toNat_natCast, ex] at hx0 ml mc
            generalize l1[i] = x at *
            clear ex
            replace hx0 := (hB5.cell (World.block_lt_of_cell? w _ hx0)).trans hx0
            have hBa := below_alloc hB5 (.cells #[.slice P x.f0.length q] 42)
            have hsa := blk_alloc hs5 (.cells #[.slice P x.f0.length q] 42)
            have hca := blk_cell (blk_new wr (.cells #[.slice P x.f0.length q] 42)) 0
            have hs0 := blk_cell hsa 1
            obtain ⟨ob, hob⟩ : ∃ b, ofB l0_1 x.f0 = b := ⟨_, rfl⟩
            rw [hob] at ha
            have HA := Lib.hid ha
            have HOB := Lib.hid (show records_of.f l0_1 x.f0 = some ob by rw [← hob]; rfl)
            clear ha hob hB5 hs5
            go_wp2_with fail
            refine (records_of.calls A0_1 c0_1 l0_1 P q x.f0 ob _ (Kd.C_below hr0_1 hBa) hc0_1 (Kd.C_below mc hBa) ml HOB.out).mono ?_
            rintro e w6 ⟨rfl, hb6⟩
            have hB6 := below_step hBa hb6
            have hs6 := blk_below hsa hb6
            clear hb6 hBa hsa hca hs0
            cases ob with
            | false =>
              have HR := Lib.hid (show r = 270 by rw [← HA.out, if_neg (by decide)])
              clear HA
              obtain rfl := HR.out
              go_wp2_with fail
              apply wp_goto
              refine And.intro rfl (And.intro ?_ hB6)
              exact ⟨_, _, _, _, _, _, _, _, _, _, _, _, _, _, _, _, _, _, _, _, _, _, _, _, _, _, _, _, _, _, _, _, _, _, _, _, _, _, _, _, _, _, _, _, _, _, _, rfl⟩
            | true =>
              have HR := Lib.hid (show allB l0_1 (l1.drop (i + 1)) = r by rw [← HA.out, if_pos rfl])
              clear HA
              go_wp2_with fail
              go_roundw
              case rel => exact ⟨i + 1, by omega, by go_num, HR.out, hB6, hs6⟩
              case measure => simp [intOf]; omega
          case neg =>
            have hie : i = l1.length := by omega
            have HR := Lib.hid (show r = 0 by rw [← ha, hie, List.drop_length]; rfl)
            clear hie ha
            obtain rfl := HR.out
            go_wp2_with fail
            simp only [Exit.jump]
            go_ret
            exact ⟨rfl, hB5⟩


end Go.Proofs.YtnbmgljcnbhinaaDoor.H
end
