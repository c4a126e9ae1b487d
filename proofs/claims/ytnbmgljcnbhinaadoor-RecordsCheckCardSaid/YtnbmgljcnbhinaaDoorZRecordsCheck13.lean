/- Texts of the claim, packed: H18, H30. -/
import Derived.BigRegion
import Derived.Deep.Cut
import Derived.Deep.CutBlock
import Derived.Deep.DeepCutAuto
import Derived.Deep.RegionHeld3
import Derived.Deep.RegionWith
import Derived.Lib.Hide
import Derived.Test.YtnbmgljcnbhinaaDoorZRecordsCheck7
import Derived.Test.YtnbmgljcnbhinaaDoorZRecordsCheck9
section
-- Laid by this session's hprint.py, out of the kit's print.py and texts of the session. Not trusted: Lean checks it.
namespace Go.Proofs.YtnbmgljcnbhinaaDoor.H
open Go.RowKit Go.Proofs.YtnbmgljcnbhinaaDoorW.PrintWords Go.Proofs.YtnbmgljcnbhinaaDoorW.PrintLast Go.Proofs.YtnbmgljcnbhinaaDoorW.PrintMore
attribute [local go_sem] max2_int min2_int max_two min_two max_three min_three max_four min_four   -- for this text's walks alone
set_option linter.unusedVariables false
set_option linter.unusedSimpArgs false

-- OVPART Derived.Lib.Hide Derived.Deep.RegionHeld3 Derived.BigRegion Derived.Deep.RegionWith Derived.Deep.Cut
/-! ### records_of: function 26 -/
theorem eqDt_ (d : Nat) (w : World) (x0 y0 : Int) (x1 y1 : Int) (x2 y2 : ByteArray) :
    (Op.equalIn (d + 2) 72 (.agg #[.int .i64 x0, .int .i64 x1, .string x2]) (.agg #[.int .i64 y0, .int .i64 y1, .string y2])).run Tryd.prog w = .ok (x0 == y0 && (x1 == y1 && (x2.toList == y2.toList))) w := by
  refine eqA_of Tryd.underlying72 (by kernel_rfl) ?_
  refine eqf_cons (by rfl) (by go_simp; rfl) (by go_simp; rfl) (by go_simp) ?_
  refine eqf_cons (by rfl) (by go_simp; rfl) (by go_simp; rfl) (by go_simp) ?_
  exact eqf_last (by rfl) (by go_simp; rfl) (by go_simp; rfl) (by go_simp)
attribute [local go_sem high] eqDt_
theorem at_dropN {ops : Array Oper} {i : Nat} {oi : Oper} {rest : List Oper} (h : ops.toList.drop i = oi :: rest) : ops[i]? = some oi := by
  rw [← Array.getElem?_toList, ← List.head?_drop, h]
  rfl
theorem tkZ_ {P : Program} {ops : Array Oper} {Q : Exit → Act → World → Prop} {S : World → Prop} {md : Region.Mode} (i : Nat) (N : Option Tmp) {oi : Oper} {rest : List Oper} {v : Value} {fuel : Nat} {listed : Array Bool} {a : Act} {w : World} (hl : ops.toList.drop i = oi :: rest) (hN : oi.dst = N)
    (hv : ∀ w, S w → (execOp a.eval oi).run P w = .ok (.value v) w) (h : wpAnyH P md ops Q S fuel (listed.setIfInBounds i true) (a.put N v) w)
    (hs : Region.noSelect ops = true := by kernel_rfl) (hf : Region.free md ops listed i = true := by kernel_rfl) (hr : (Region.ready md ops listed).contains i = true := by kernel_rfl)
    (hw : Region.wanted oi (yielded ops a.tmps) = true := by rfl) (hS : S w := by assumption) (hQ : ∀ c a w, Q (.panic c) (a.put N v) w → Q (.panic c) a w := by exact fun _ _ _ h => h) : wpAnyH P md ops Q S (fuel + 1) listed a w := by
  subst hN
  exact wpAnyH_take (at_dropN hl) hs hf hr hQ (.inl ⟨hw, hv⟩) hS h
def dt0 (x : S72) : Bool := x.f0 == 0 && (x.f1 == 0 && (x.f2.toList == ([] : List UInt8)))
theorem dt0_is (x : S72) : (!(x.f0 == 0) || (!(x.f1 == 0) || (!(x.f2.toList == ([] : List UInt8))))) = !dt0 x := by
  unfold dt0
  cases (x.f0 == 0) <;> cases (x.f1 == 0) <;> cases (x.f2.toList == ([] : List UInt8)) <;> rfl
def ofD (x : S72) (k s : Int) : Bool := (datum_Of.f x.f0 x.f1 x.f2 k s).getD false
theorem ofD_is (x : S72) (k s : Int) : datum_Of.f x.f0 x.f1 x.f2 k s = some (ofD x k s) := by
  have h : ∃ b, datum_Of.f x.f0 x.f1 x.f2 k s = some b := by
    unfold datum_Of.f
    have e1 : datum_Check.f k s = some (datum_Check.v k s) := rfl
    have e2 : datum_fine.f x.f0 x.f1 x.f2 = some (datum_fine.v x.f0 x.f1 x.f2) := rfl
    rw [e1, e2]
    simp only [Option.bind_some]
    repeat' split
    all_goals exact ⟨_, rfl⟩
  obtain ⟨b, hb⟩ := h
  unfold ofD
  rw [hb]
  rfl
def cntB (r : Int) (c : Nat) : Bool := decide (r = 2) || (decide (c = 1) || (decide (r = 1) && decide (c = 0)))
theorem counted_is (a : ByteArray) (b : Int) (c : Bool) (d e : Int) (k : List S64) (n : Nat) : records_counted.f a b c d e k (n : Int) = some (cntB b n) := by
  unfold records_counted.f cntB
  by_cases h2 : b = 2
  · rw [if_pos h2, decide_eq_true h2]
    rfl
  · rw [if_neg h2, decide_eq_false h2]
    by_cases h1 : n = 1
    · rw [if_pos (by omega), decide_eq_true h1]
      rfl
    · rw [if_neg (by omega), decide_eq_false h1]
      by_cases h3 : b = 1
      · rw [if_pos h3, decide_eq_true h3]
        by_cases h4 : n = 0
        · subst h4
          rfl
        · rw [decide_eq_false h4]
          have : ((n : Int) == 0) = false := beq_eq_false_iff_ne.mpr (by omega)
          rw [this]
          rfl
      · rw [if_neg h3, decide_eq_false h3]
        rfl
/-- May a value be one of a node? -/
def ofB : List S64 → List S70 → Bool
  | [], [] => true
  | ⟨_, r, g, d, e, k⟩ :: ns, f :: fs => cntB r f.f0.length && (f.f0.all (fun v => if g = true then dt0 v.f0 && ofB k v.f1 else decide (v.f1.length = 0) && ofD v.f0 d e) && ofB ns fs)
  | _, _ => false
def valB (x : S64) (v : S74) : Bool := if x.f2 = true then dt0 v.f0 && ofB x.f5 v.f1 else decide (v.f1.length = 0) && ofD v.f0 x.f3 x.f4
theorem ofB_cons (x : S64) (ns : List S64) (f : S70) (fs : List S70) : ofB (x :: ns) (f :: fs) = (cntB x.f1 f.f0.length && (f.f0.all (valB x) && ofB ns fs)) := by
  cases x
  rw [ofB]
  rfl
theorem ofB_len : ∀ (ns : List S64) (fs : List S70), ns.length ≠ fs.length → ofB ns fs = false
  | [], [], h => absurd rfl h
  | [], _ :: _, _ => by rw [ofB]; all_goals simp
  | _ :: _, [], _ => by rw [ofB]; all_goals simp
  | x :: ns, f :: fs, h => by
    rw [ofB_cons, ofB_len ns fs (fun e => h (by simp [e]))]
    simp
abbrev ndC (x : S64) (g : Bool) (P : Option Addr) (q : Nat) : Array Value := #[.string x.f0, .int .i64 x.f1, .bool g, .int .i64 x.f3, .int .i64 x.f4, .slice P x.f5.length q]
theorem nd_cells {W : World} {b : Nat} {x : S64} {g : Bool} {P : Option Addr} {q : Nat} (h : W.heap[b]? = some (.cells (ndC x g P q) 64 (0, 0))) :
    W.cell? ⟨b, 0, none⟩ = some (.string x.f0) ∧ W.cell? ⟨b, 1, none⟩ = some (.int .i64 x.f1) ∧ W.cell? ⟨b, 2, none⟩ = some (.bool g) ∧ W.cell? ⟨b, 3, none⟩ = some (.int .i64 x.f3) ∧ W.cell? ⟨b, 4, none⟩ = some (.int .i64 x.f4) ∧ W.cell? ⟨b, 5, none⟩ = some (.slice P x.f5.length q) :=
  ⟨blk_cell h 0, blk_cell h 1, blk_cell h 2, blk_cell h 3, blk_cell h 4, blk_cell h 5⟩
abbrev vlC (v : S74) (P : Option Addr) (q : Nat) : Array Value := #[.int .i64 v.f0.f0, .int .i64 v.f0.f1, .string v.f0.f2, .slice P v.f1.length q]
theorem vl_cells {W : World} {b : Nat} {v : S74} {P : Option Addr} {q : Nat} (h : W.heap[b]? = some (.cells (vlC v P q) 74 (0, 0))) :
    W.cell? ⟨b, 0, none⟩ = some (.int .i64 v.f0.f0) ∧ W.cell? ⟨b, 1, none⟩ = some (.int .i64 v.f0.f1) ∧ W.cell? ⟨b, 2, none⟩ = some (.string v.f0.f2) ∧ W.cell? ⟨b, 3, none⟩ = some (.slice P v.f1.length q) :=
  ⟨blk_cell h 0, blk_cell h 1, blk_cell h 2, blk_cell h 3⟩
theorem szo_mem {x : S64} {l : List S64} (h : x ∈ l) : SizeOf.sizeOf x < SizeOf.sizeOf l := List.sizeOf_lt_of_mem h
theorem szo_node (x : S64) : SizeOf.sizeOf x.f5 < SizeOf.sizeOf x := by
  cases x
  simp
  omega
def records_of.f (l0 : List S64) (l1 : List S70) : Option Bool := some (ofB l0 l1)
/-- What 'of' does at nodes that are no greater. -/
def OfAt (n : Nat) : Prop := ∀ (l0 : List S64), SizeOf.sizeOf l0 ≤ n → ∀ (l1 : List S70) (A0 : Option Addr) (c0 : Nat) (A1 : Option Addr) (c1 : Nat) (w : World), Kd.C k64 w A0 l0.length l0 → Kd.C k70 w A1 l1.length l1 →
  Calls Tryd.prog 26 #[.slice A0 l0.length c0, .slice A1 l1.length c1] w fun e w' => e = .returned (.bool (ofB l0 l1)) ∧ Below w.heap.size w w'
set_option maxHeartbeats 8000000 in
set_option maxRecDepth 100000 in
theorem of_step {n : Nat} (ih : OfAt n) : OfAt (n + 1) := by
  intro l0 hn l1 A0 c0 A1 c1 w hr0 hr1
  by_cases hl : l0.length = l1.length
  case neg =>
    have hz : ofB l0 l1 = false := ofB_len l0 l1 hl
    have c1b0 : ((l0.length : Int) != (l1.length : Int)) = true := bne_iff_ne.mpr (by omega)
    have HZ := Lib.hid hz
    clear hz hl
    go_enter Tryd.func26, Tryd.ntmps26
    go_wp2_with fail
    go_ret
    exact ⟨by rw [HZ.out]; rfl, Below.refl _ _⟩
  have c1b0 : ((l0.length : Int) != (l1.length : Int)) = false := bne_eq_false_iff_eq.mpr (by omega)
  have hmax := Kd.C_max hr0
  have HL := Lib.hid hl
  have HN := Lib.hid hn
  clear hl hn
  go_enter Tryd.func26, Tryd.ntmps26
  go_wp2_with fail
  go_loopw [17] (fun v wr => ∃ i : Nat, i ≤ l0.length ∧ v = .int .i64 i ∧ ofB (l0.drop i) (l1.drop i) = ofB l0 l1 ∧ Below w.heap.size w wr) (fun v _ => l0.length - (intOf v).toNat)
  case atStart => exact ⟨0, Nat.zero_le _, rfl, rfl, Below.refl _ _⟩
  case round =>
    obtain ⟨i, hi, rfl, he, hB⟩ := hrel
    by_cases hlt : i < l0.length
    case neg =>
      have hie : i = l0.length := by omega
      have hz : ofB l0 l1 = true := by rw [← he, hie, List.drop_length, HL.out, List.drop_length, ofB]
      have HZ := Lib.hid hz
      clear hz he hie
      go_wp2_with fail
      go_ret
      exact ⟨by rw [HZ.out]; rfl, hB⟩
    have hlt1 : i < l1.length := by have := HL.out; omega
    have hwk : IntKind.i64.wrap ((i : Int) + 1) = (i : Int) + 1 := by rw [IntKind.wrap_i64]; omega
    have HSZ := Lib.hid (show SizeOf.sizeOf l0[i].f5 ≤ n by have := szo_mem (List.getElem_mem hlt); have := szo_node l0[i]; have := HN.out; omega)
    rw [List.drop_eq_getElem_cons hlt, List.drop_eq_getElem_cons hlt1, ofB_cons] at he
    obtain ⟨ad0, P, q, e0, hx0, hx1, hx2, hx3, hx4, hx5, ml, mc⟩ := at_T64 hr0 (i : Int) (by omega) (by omega)
    obtain ⟨ad1, V0, d0, e1, hf0, hd0, mv⟩ := at_T70 hr1 (i : Int) (by omega) (by omega)
    cases e0
    cases e1
    have ex : rd_T64 l0 (i : Int) = l0[i] := by unfold rd_T64; simp [List.getD, hlt]
    have ef : rd_T70 l1 (i : Int) = l1[i] := by unfold rd_T70; simp [List.getD, hlt1]
    simp only [Int.toNat_natCast, ex] at hx0 hx1 hx2 hx3 hx4 hx5 ml mc
    simp only [Int.toNat_natCast, ef] at hf0 hd0 mv
    clear ex ef
    generalize l0[i] = x at *
    generalize l1[i] = f at *
    replace hx0 := (hB.cell (World.block_lt_of_cell? w _ hx0)).trans hx0
    replace hx1 := (hB.cell (World.block_lt_of_cell? w _ hx1)).trans hx1
    replace hx2 := (hB.cell (World.block_lt_of_cell? w _ hx2)).trans hx2
    replace hx3 := (hB.cell (World.block_lt_of_cell? w _ hx3)).trans hx3
    replace hx4 := (hB.cell (World.block_lt_of_cell? w _ hx4)).trans hx4
    replace hx5 := (hB.cell (World.block_lt_of_cell? w _ hx5)).trans hx5
    replace hf0 := (hB.cell (World.block_lt_of_cell? w _ hf0)).trans hf0
    obtain ⟨g, hg⟩ : ∃ g, x.f2 = g := ⟨_, rfl⟩
    rw [hg] at hx2
    have HG := Lib.hid hg
    clear hg
    have HE := Lib.hid he
    have hkn := blk_new wr (.cells (ndC x g P q) 64)
    have hbn := below_alloc (Below.refl wr.heap.size wr) (.cells (ndC x g P q) 64)
    have hBw := (below_alloc hB (.cells (ndC x g P q) 64)).drew
    have hfcd : (wr.alloc (.cells (ndC x g P q) 64)).drew.cell? (ad1.add i) = some (.slice V0 f.f0.length d0) := (hbn.cell (p := ad1.add i) (World.block_lt_of_cell? _ _ hf0)).trans hf0
    have hkd : (wr.alloc (.cells (ndC x g P q) 64)).drew.heap[wr.heap.size]? = some (.cells (ndC x g P q) 64 (0, 0)) := hkn
    clear he hbn hkn
    go_wp2_with fail
    generalize hb6 : wr.heap.size = b6 at *
    obtain ⟨cb, hcb⟩ : ∃ cb, cntB x.f1 f.f0.length = cb := ⟨_, rfl⟩
    have HCN := Lib.hid (show records_counted.f x.f0 x.f1 g x.f3 x.f4 x.f5 (f.f0.length : Int) = some cb by rw [counted_is, hcb])
    have HCB := Lib.hid hcb
    clear hcb
    refine wp_region_held_drew (S := (fun W => (W.cell? ⟨b6, 0, none⟩ = some (.string x.f0) ∧ W.cell? ⟨b6, 1, none⟩ = some (.int .i64 x.f1) ∧ W.cell? ⟨b6, 2, none⟩ = some (.bool g) ∧ W.cell? ⟨b6, 3, none⟩ = some (.int .i64 x.f3) ∧ W.cell? ⟨b6, 4, none⟩ = some (.int .i64 x.f4) ∧ W.cell? ⟨b6, 5, none⟩ = some (.slice P x.f5.length q)) ∧ W.cell? (ad1.add i) = some (.slice V0 f.f0.length d0))) (by kernel_rfl) ⟨nd_cells hkd, hfcd⟩ (fun hHeld => ?_)
    generalize (wr.alloc (.cells (ndC x g P q) 64)).drew = w3 at *
    clear hx0 hx1 hx2 hx3 hx4 hx5 hf0 hb6
    cases cb with
    | false =>
      refine tkZ_ 0 (some 22) rfl rfl (v := ?a9) ?b9 ?c9
      case b9 => (intro W' hSw; (try dsimp only at hSw); go_simp; first | done | with_reducible rfl)
      simp only [Act.put, List.setIfInBounds_toArray, List.set_cons_zero, List.set_cons_succ]
      refine tkZ_ 1 (some 23) rfl rfl (v := ?a10) ?b10 ?c10
      case b10 => (intro W' hSw; (try dsimp only at hSw); go_simp; first | done | with_reducible rfl)
      simp only [Act.put, List.setIfInBounds_toArray, List.set_cons_zero, List.set_cons_succ]
      refine tkZ_ 2 (some 24) rfl rfl (v := ?a11) ?b11 ?c11
      case b11 => (intro W' hSw; (try dsimp only at hSw); go_simp; first | done | with_reducible rfl)
      simp only [Act.put, List.setIfInBounds_toArray, List.set_cons_zero, List.set_cons_succ]
      refine tkZ_ 3 (some 25) rfl rfl (v := ?a12) ?b12 ?c12
      case b12 => (intro W' hSw; (try dsimp only at hSw); go_simp; first | done | with_reducible rfl)
      simp only [Act.put, List.setIfInBounds_toArray, List.set_cons_zero, List.set_cons_succ]
      refine tkZ_ 4 (some 26) rfl rfl (v := ?a13) ?b13 ?c13
      case b13 => (intro W' hSw; (try dsimp only at hSw); go_simp; first | done | with_reducible rfl)
      simp only [Act.put, List.setIfInBounds_toArray, List.set_cons_zero, List.set_cons_succ]
      refine tkZ_ 5 (some 27) rfl rfl (v := ?a14) ?b14 ?c14
      case b14 => (intro W' hSw; (try dsimp only at hSw); go_simp; first | done | with_reducible rfl)
      simp only [Act.put, List.setIfInBounds_toArray, List.set_cons_zero, List.set_cons_succ]
      refine tkZ_ 6 (some 28) rfl rfl (v := ?a15) ?b15 ?c15
      case b15 => (intro W' hSw; (try dsimp only at hSw); go_simp; first | done | with_reducible rfl)
      simp only [Act.put, List.setIfInBounds_toArray, List.set_cons_zero, List.set_cons_succ]
      refine wpAnyH_ready (rs := [7]) (by kernel_rfl) (by simp) (AllReadyH.cons (at_dropN rfl) (fun KC hKC => ?_) AllReadyH.nil)
      go_simp
      refine (records_counted.calls x.f0 x.f1 g x.f3 x.f4 P q x.f5 (f.f0.length : Int) _ _ (Kd.C_below mc hBw) ml HCN.out).mono ?_
      rintro e w4 ⟨rfl, hb4⟩
      have hB4 := below_step hBw hb4
      have hk4 := blk_below hkd hb4
      have hfc4 := (hb4.cell (p := ad1.add i) (World.block_lt_of_cell? _ _ hfcd)).trans hfcd
      refine hKC.out _ _ ⟨nd_cells hk4, hfc4⟩ (fun hHeld => ?_)
      clear hKC KC
      try simp only [Act.put, List.setIfInBounds_toArray, List.set_cons_zero, List.set_cons_succ]
      refine tkZ_ 8 (some 30) rfl rfl (v := ?a16) ?b16 ?c16
      case b16 => (intro W' hSw; (try dsimp only at hSw); go_simp; first | done | with_reducible rfl)
      simp only [Act.put, List.setIfInBounds_toArray, List.set_cons_zero, List.set_cons_succ]
      refine wpAnyH_done (by kernel_rfl) ?_ _
      clear hkd hfcd hBw hb4 hHeld
      obtain ⟨n0, n1, n2, n3, n4, n5⟩ := nd_cells hk4
      have HZ := Lib.hid (show ofB l0 l1 = false by rw [← HE.out, HCB.out]; rfl)
      have HB4 := Lib.hid hB4
      clear hB4
      go_wp2_with fail
      go_ret
      exact ⟨by rw [HZ.out]; rfl, HB4.out⟩
    | true =>
    refine tkZ_ 0 (some 22) rfl rfl (v := ?a1) ?b1 ?c1
    case b1 => (intro W' hSw; (try dsimp only at hSw); go_simp; first | done | with_reducible rfl)
    simp only [Act.put, List.setIfInBounds_toArray, List.set_cons_zero, List.set_cons_succ]
    refine tkZ_ 1 (some 23) rfl rfl (v := ?a2) ?b2 ?c2
    case b2 => (intro W' hSw; (try dsimp only at hSw); go_simp; first | done | with_reducible rfl)
    simp only [Act.put, List.setIfInBounds_toArray, List.set_cons_zero, List.set_cons_succ]
    refine tkZ_ 2 (some 24) rfl rfl (v := ?a3) ?b3 ?c3
    case b3 => (intro W' hSw; (try dsimp only at hSw); go_simp; first | done | with_reducible rfl)
    simp only [Act.put, List.setIfInBounds_toArray, List.set_cons_zero, List.set_cons_succ]
    refine tkZ_ 3 (some 25) rfl rfl (v := ?a4) ?b4 ?c4
    case b4 => (intro W' hSw; (try dsimp only at hSw); go_simp; first | done | with_reducible rfl)
    simp only [Act.put, List.setIfInBounds_toArray, List.set_cons_zero, List.set_cons_succ]
    refine tkZ_ 4 (some 26) rfl rfl (v := ?a5) ?b5 ?c5
    case b5 => (intro W' hSw; (try dsimp only at hSw); go_simp; first | done | with_reducible rfl)
    simp only [Act.put, List.setIfInBounds_toArray, List.set_cons_zero, List.set_cons_succ]
    refine tkZ_ 5 (some 27) rfl rfl (v := ?a6) ?b6 ?c6
    case b6 => (intro W' hSw; (try dsimp only at hSw); go_simp; first | done | with_reducible rfl)
    simp only [Act.put, List.setIfInBounds_toArray, List.set_cons_zero, List.set_cons_succ]
    refine tkZ_ 6 (some 28) rfl rfl (v := ?a7) ?b7 ?c7
    case b7 => (intro W' hSw; (try dsimp only at hSw); go_simp; first | done | with_reducible rfl)
    simp only [Act.put, List.setIfInBounds_toArray, List.set_cons_zero, List.set_cons_succ]
    refine wpAnyH_ready (rs := [7]) (by kernel_rfl) (by simp) (AllReadyH.cons (at_dropN rfl) (fun KC hKC => ?_) AllReadyH.nil)
    go_simp
    refine (records_counted.calls x.f0 x.f1 g x.f3 x.f4 P q x.f5 (f.f0.length : Int) _ _ (Kd.C_below mc hBw) ml HCN.out).mono ?_
    rintro e w4 ⟨rfl, hb4⟩
    have hB4 := below_step hBw hb4
    have hk4 := blk_below hkd hb4
    have hfc4 := (hb4.cell (p := ad1.add i) (World.block_lt_of_cell? _ _ hfcd)).trans hfcd
    refine hKC.out _ _ ⟨nd_cells hk4, hfc4⟩ (fun hHeld => ?_)
    clear hKC KC
    try simp only [Act.put, List.setIfInBounds_toArray, List.set_cons_zero, List.set_cons_succ]
    refine tkZ_ 8 (some 30) rfl rfl (v := ?a8) ?b8 ?c8
    case b8 => (intro W' hSw; (try dsimp only at hSw); go_simp; first | done | with_reducible rfl)
    simp only [Act.put, List.setIfInBounds_toArray, List.set_cons_zero, List.set_cons_succ]
    refine wpAnyH_done (by kernel_rfl) ?_ _
    clear hkd hfcd hBw hb4 hHeld
    obtain ⟨n0, n1, n2, n3, n4, n5⟩ := nd_cells hk4
    have HE1 := Lib.hid (show (f.f0.all (valB x) && ofB (l0.drop (i + 1)) (l1.drop (i + 1))) = ofB l0 l1 by rw [← HE.out, HCB.out]; rfl)
    have hmaxv := Kd.C_max mv
    go_wp2_with fail
    go_loopw [37] (fun v wr => ∃ j : Nat, j ≤ f.f0.length ∧ v = .int .i64 j ∧ (f.f0.drop j).all (valB x) = f.f0.all (valB x) ∧ Below w.heap.size w wr ∧ wr.heap[b6]? = some (.cells (ndC x g P q) 64 (0, 0))) (fun v _ => f.f0.length - (intOf v).toNat)
    case atStart => exact ⟨0, Nat.zero_le _, rfl, rfl, hB4, hk4⟩
    case round =>
      clear hB4 hk4 hfc4 n0 n1 n2 n3 n4 n5
      obtain ⟨j, hj, rfl, ha, hB5, hk5⟩ := hrel
      by_cases hjl : j < f.f0.length
      case neg =>
        have hje : j = f.f0.length := by omega
        have HR := Lib.hid (show ofB (l0.drop (i + 1)) (l1.drop (i + 1)) = ofB l0 l1 by rw [← HE1.out, ← ha, hje, List.drop_length, List.all_nil, Bool.true_and])
        clear hje ha
        go_wp2_with fail
        go_roundw
        case rel => exact ⟨i + 1, by omega, by go_num, HR.out, hB5⟩
        case measure => simp [intOf]; omega
      have hwj : IntKind.i64.wrap ((j : Int) + 1) = (j : Int) + 1 := by rw [IntKind.wrap_i64]; omega
      rw [List.drop_eq_getElem_cons hjl, List.all_cons] at ha
      obtain ⟨ad2, F, fq, e2, y0, y1, y2, y3, mlf, mcf⟩ := at_T74 mv (j : Int) (by omega) (by omega)
      cases e2
      have ev : rd_T74 f.f0 (j : Int) = f.f0[j] := by unfold rd_T74; simp [List.getD, hjl]
      simp only [Int.toNat_natCast, ev] at y0 y1 y2 y3 mlf mcf
      clear ev
      generalize f.f0[j] = v at *
      replace y0 := (hB5.cell (World.block_lt_of_cell? w _ y0)).trans y0
      replace y1 := (hB5.cell (World.block_lt_of_cell? w _ y1)).trans y1
      replace y2 := (hB5.cell (World.block_lt_of_cell? w _ y2)).trans y2
      replace y3 := (hB5.cell (World.block_lt_of_cell? w _ y3)).trans y3
      have HA := Lib.hid ha
      have hv6 := blk_new wr (.cells (vlC v F fq) 74)
      have hk6 := blk_alloc hk5 (.cells (vlC v F fq) 74)
      have hB6 := below_alloc hB5 (.cells (vlC v F fq) 74)
      obtain ⟨n0, n1, n2, n3, n4, n5⟩ := nd_cells hk6
      obtain ⟨m0, m1, m2, m3⟩ := vl_cells hv6
      have HEND := Lib.hid (fun (hv : valB x v = false) (w' : World) (hb : Below w.heap.size w w') => show Ending.returned (.bool false) = Ending.returned (.bool (ofB l0 l1)) ∧ Below w.heap.size w w' from ⟨by rw [← HE1.out, ← HA.out, hv]; rfl, hb⟩)
      have HNXT := Lib.hid (fun (hv : valB x v = true) => show (f.f0.drop (j + 1)).all (valB x) = f.f0.all (valB x) by rw [← HA.out, hv, Bool.true_and])
      have HCF := Lib.hid (And.intro mcf mlf)
      clear ha mlf mcf hk5 hB5
      by_cases hz : v.f1.length = 0
      case neg =>
        have hz1 : ((v.f1.length : Int) == 0) = false := beq_eq_false_iff_ne.mpr (by omega)
        cases g with
        | false =>
          have HV := Lib.hid (show valB x v = false by unfold valB; rw [if_neg (by rw [HG.out]; simp), decide_eq_false hz]; rfl)
          have HB6 := Lib.hid hB6
          clear hB6
          go_wp2_with fail
          go_ret
          exact HEND.out HV.out _ HB6.out
        | true =>
          obtain ⟨t0, ht0⟩ : ∃ t, (v.f0.f0 == 0) = t := ⟨_, rfl⟩
          obtain ⟨t1, ht1⟩ : ∃ t, (v.f0.f1 == 0) = t := ⟨_, rfl⟩
          obtain ⟨t2, ht2⟩ : ∃ t, (v.f0.f2.toList == ([] : List UInt8)) = t := ⟨_, rfl⟩
          have hdt := dt0_is v.f0
          rw [ht0, ht1, ht2] at hdt
          cases hd : dt0 v.f0 with
          | false =>
            rw [hd, Bool.not_false] at hdt
            have HV := Lib.hid (show valB x v = false by unfold valB; rw [if_pos HG.out, hd]; rfl)
            have HB6 := Lib.hid hB6
            clear hB6
            go_wp2_with fail
            go_ret
            exact HEND.out HV.out _ HB6.out
          | true =>
            rw [hd, Bool.not_true] at hdt
            have HC := ih x.f5 HSZ.out v.f1 P q F fq _ (Kd.C_below mc hB6) (Kd.C_below HCF.out.1 hB6)
            cases hob : ofB x.f5 v.f1 with
            | false =>
              rw [hob] at HC
              have hval : valB x v = false := by unfold valB; rw [if_pos HG.out, hd, hob]; rfl
              clear hob hd
              go_wp2_with fail
              refine HC.mono ?_
              rintro e w9 ⟨rfl, hb9⟩
              have hB9 := below_step hB6 hb9
              have hk9 := blk_below hk6 hb9
              have HV := Lib.hid hval
              have HB9 := Lib.hid hB9
              clear hval hB9 hb9
              go_wp2_with fail
              go_ret
              exact HEND.out HV.out _ HB9.out
            | true =>
              rw [hob] at HC
              have hval : valB x v = true := by unfold valB; rw [if_pos HG.out, hd, hob]; rfl
              clear hob hd
              go_wp2_with fail
              refine HC.mono ?_
              rintro e w9 ⟨rfl, hb9⟩
              have hB9 := below_step hB6 hb9
              have hk9 := blk_below hk6 hb9
              clear hb9
              have HV := Lib.hid hval
              clear hval
              go_wp2_with fail
              go_roundw
              case rel => exact ⟨j + 1, by omega, by go_num, HNXT.out HV.out, hB9, hk9⟩
              case measure => simp [intOf]; omega
      have hz1 : ((v.f1.length : Int) == 0) = true := beq_iff_eq.mpr (by omega)
      have HZL := Lib.hid hz
      clear hz
      obtain ⟨o, ho⟩ : ∃ o, ofD v.f0 x.f3 x.f4 = o := ⟨_, rfl⟩
      have HOD := Lib.hid (show datum_Of.f v.f0.f0 v.f0.f1 v.f0.f2 x.f3 x.f4 = some o by rw [← ho]; exact ofD_is v.f0 x.f3 x.f4)
      have HO := Lib.hid ho
      clear ho
      go_wp2_with fail
      refine (datum_Of.calls v.f0.f0 v.f0.f1 v.f0.f2 x.f3 x.f4 o _ HOD.out).mono ?_
      rintro e w7 ⟨rfl, hb7⟩
      have hB7 := below_step hB6 hb7
      have hk7 := blk_below hk6 hb7
      have hv7 := blk_below hv6 hb7
      clear hb7 hB6 hk6 hv6 n0 n1 n2 n3 n4 n5 m0 m1 m2 m3
      obtain ⟨n0, n1, n2, n3, n4, n5⟩ := nd_cells hk7
      obtain ⟨m0, m1, m2, m3⟩ := vl_cells hv7
      cases g with
      | false =>
        cases o with
        | false =>
          have HV := Lib.hid (show valB x v = false by unfold valB; rw [if_neg (by rw [HG.out]; simp), HO.out]; simp)
          have HB7 := Lib.hid hB7
          clear hB7
          go_wp2_with fail
          go_ret
          exact HEND.out HV.out _ HB7.out
        | true =>
          have hval : valB x v = true := by unfold valB; rw [if_neg (by rw [HG.out]; simp), HO.out, decide_eq_true HZL.out]; rfl
          have HV := Lib.hid hval
          clear hval
          go_wp2_with fail
          go_roundw
          case rel => exact ⟨j + 1, by omega, by go_num, HNXT.out HV.out, hB7, hk7⟩
          case measure => simp [intOf]; omega
      | true =>
        obtain ⟨t0, ht0⟩ : ∃ t, (v.f0.f0 == 0) = t := ⟨_, rfl⟩
        obtain ⟨t1, ht1⟩ : ∃ t, (v.f0.f1 == 0) = t := ⟨_, rfl⟩
        obtain ⟨t2, ht2⟩ : ∃ t, (v.f0.f2.toList == ([] : List UInt8)) = t := ⟨_, rfl⟩
        have hdt := dt0_is v.f0
        rw [ht0, ht1, ht2] at hdt
        cases hd : dt0 v.f0 with
        | false =>
          rw [hd, Bool.not_false] at hdt
          have HV := Lib.hid (show valB x v = false by unfold valB; rw [if_pos HG.out, hd]; rfl)
          have HB7 := Lib.hid hB7
          clear hB7
          go_wp2_with fail
          go_ret
          exact HEND.out HV.out _ HB7.out
        | true =>
          rw [hd, Bool.not_true] at hdt
          have HC := ih x.f5 HSZ.out v.f1 P q F fq _ (Kd.C_below mc hB7) (Kd.C_below HCF.out.1 hB7)
          cases hob : ofB x.f5 v.f1 with
          | false =>
            rw [hob] at HC
            have hval : valB x v = false := by unfold valB; rw [if_pos HG.out, hd, hob]; rfl
            clear hob hd
            go_wp2_with fail
            refine HC.mono ?_
            rintro e w9 ⟨rfl, hb9⟩
            have hB9 := below_step hB7 hb9
            have hk9 := blk_below hk7 hb9
            have HV := Lib.hid hval
            have HB9 := Lib.hid hB9
            clear hval hB9 hb9
            go_wp2_with fail
            go_ret
            exact HEND.out HV.out _ HB9.out
          | true =>
            rw [hob] at HC
            have hval : valB x v = true := by unfold valB; rw [if_pos HG.out, hd, hob]; rfl
            clear hob hd
            go_wp2_with fail
            refine HC.mono ?_
            rintro e w9 ⟨rfl, hb9⟩
            have hB9 := below_step hB7 hb9
            have hk9 := blk_below hk7 hb9
            clear hb9
            have HV := Lib.hid hval
            clear hval
            go_wp2_with fail
            go_roundw
            case rel => exact ⟨j + 1, by omega, by go_num, HNXT.out HV.out, hB9, hk9⟩
            case measure => simp [intOf]; omega
theorem of_all : ∀ n, OfAt n
  | 0 => fun l0 hn => by
    exfalso
    cases l0 <;> simp at hn
  | n + 1 => of_step (of_all n)
theorem records_of.calls (A0 : Option Addr) (c0 : Nat) (l0 : List (S64)) (A1 : Option Addr) (c1 : Nat) (l1 : List (S70)) (r : Bool) (w : World) (hr0 : Kd.C k64 w A0 l0.length l0) (hc0 : l0.length ≤ c0) (hr1 : Kd.C k70 w A1 l1.length l1) (hc1 : l1.length ≤ c1) (h : records_of.f l0 l1 = some r) :
    Calls Tryd.prog 26 #[.slice A0 l0.length c0, .slice A1 l1.length c1] w fun e w' => e = .returned (.bool r) ∧ Below w.heap.size w w' := by
  unfold records_of.f at h
  obtain rfl := Option.some.inj h
  exact of_all _ l0 (Nat.le_refl _) l1 A0 c0 A1 c1 w hr0 hr1


end Go.Proofs.YtnbmgljcnbhinaaDoor.H
end
section
-- Laid by this session's hprint.py, out of the kit's print.py and texts of the session. Not trusted: Lean checks it.
namespace Go.Proofs.YtnbmgljcnbhinaaDoor.H
open Go.RowKit Go.Proofs.YtnbmgljcnbhinaaDoorW.PrintWords Go.Proofs.YtnbmgljcnbhinaaDoorW.PrintLast Go.Proofs.YtnbmgljcnbhinaaDoorW.PrintMore
attribute [local go_sem] max2_int min2_int max_two min_two max_three min_three max_four min_four   -- for this text's walks alone
set_option linter.unusedVariables false
set_option linter.unusedSimpArgs false

-- OVPART Derived.Lib.Hide Derived.Deep.RegionHeld3 Derived.BigRegion Derived.Deep.RegionWith Derived.Deep.Cut Derived.Deep.CutBlock Derived.Deep.DeepCutAuto
/-! ### marquetryref17_Of: function 28 -/
attribute [local go_sem high] eqDt_
theorem tkN_ {P : Program} {ops : Array Oper} {Q : Exit → Act → World → Prop} {S : World → Prop} {md : Region.Mode} (i : Nat) (N : Option Tmp) {oi : Oper} {rest : List Oper} {fuel : Nat} {listed : Array Bool} {a a' : Act} {w : World} (hl : ops.toList.drop i = oi :: rest) (hN : oi.dst = N)
    (hs : Region.noSelect ops = true) (hf : Region.free md ops listed i = true) (hr : (Region.ready md ops listed).contains i = true)
    (hQ : ∀ c a w, Q (.panic c) (a.put N undef) w → Q (.panic c) a w) (hw : Region.wanted oi (yielded ops a.tmps) = false) (hS : S w) (ha : a.put N undef = a')
    (h : wpAnyH P md ops Q S fuel (listed.setIfInBounds i true) a' w) : wpAnyH P md ops Q S (fuel + 1) listed a w := by
  subst hN
  subst ha
  exact wpAnyH_take (at_dropN hl) hs hf hr hQ (.inr ⟨hw, rfl⟩) hS h
theorem putN {W : World} {b : Nat} {T : TypeId} {a0 a1 a2 a3 a4 a5 : Value} (h : W.heap[b]? = some (.cells #[a0, a1, a2, a3, a4, a5] T (0, 0))) (x y z u v s : Value) : (World.setCell (World.setCell (World.setCell (World.setCell (World.setCell (World.setCell W ⟨b, 0, none⟩ x) ⟨b, 1, none⟩ y) ⟨b, 2, none⟩ z) ⟨b, 3, none⟩ u) ⟨b, 4, none⟩ v) ⟨b, 5, none⟩ s).heap[b]? = some (.cells #[x, y, z, u, v, s] T (0, 0)) := blk_set (blk_set (blk_set (blk_set (blk_set (blk_set h 0 x) 1 y) 2 z) 3 u) 4 v) 5 s
theorem belowN {n : Nat} {w W : World} {b : Nat} (h : Below n w W) (hB : n ≤ b) (x y z u v s : Value) : Below n w (World.setCell (World.setCell (World.setCell (World.setCell (World.setCell (World.setCell W ⟨b, 0, none⟩ x) ⟨b, 1, none⟩ y) ⟨b, 2, none⟩ z) ⟨b, 3, none⟩ u) ⟨b, 4, none⟩ v) ⟨b, 5, none⟩ s) :=
  (((((h.setCell (p := ⟨b, 0, none⟩) hB x).setCell (p := ⟨b, 1, none⟩) hB y).setCell (p := ⟨b, 2, none⟩) hB z).setCell (p := ⟨b, 3, none⟩) hB u).setCell (p := ⟨b, 4, none⟩) hB v).setCell (p := ⟨b, 5, none⟩) hB s
theorem cellsN {W : World} {C : Nat} {t : TypeId} {c0 c1 c2 c3 c4 c5 : Value} (h : W.heap[C]? = some (.cells #[c0, c1, c2, c3, c4, c5] t (0, 0))) : (W.cell? ⟨C, 0, none⟩ = some c0 ∧ W.cell? ⟨C, 1, none⟩ = some c1 ∧ W.cell? ⟨C, 2, none⟩ = some c2 ∧ W.cell? ⟨C, 3, none⟩ = some c3 ∧ W.cell? ⟨C, 4, none⟩ = some c4 ∧ W.cell? ⟨C, 5, none⟩ = some c5) ∧ (W.frozen? ⟨C, 0, none⟩ = false ∧ W.frozen? ⟨C, 1, none⟩ = false ∧ W.frozen? ⟨C, 2, none⟩ = false ∧ W.frozen? ⟨C, 3, none⟩ = false ∧ W.frozen? ⟨C, 4, none⟩ = false ∧ W.frozen? ⟨C, 5, none⟩ = false) :=
  ⟨⟨blk_cell h 0, blk_cell h 1, blk_cell h 2, blk_cell h 3, blk_cell h 4, blk_cell h 5⟩, blk_frozen h 0, blk_frozen h 1, blk_frozen h 2, blk_frozen h 3, blk_frozen h 4, blk_frozen h 5⟩
def cntR (r : Int) (c : Nat) : Bool := if r = 0 then decide (c = 1) else if r = 1 then decide (c ≤ 1) else true
/-- Is all known that may be asked? -/
def okR (k : Nat) : List S64 → List S70 → Bool
  | ⟨_, _, g, d, e, kk⟩ :: ns, f :: fs => f.f0.all (fun v => if g = true then okR k kk v.f1 else (marquetryref09_Of.f k v.f0.f0 v.f0.f1 v.f0.f2 d e).isSome) && okR k ns fs
  | _, _ => true
/-- The document's way: fields of nodes. -/
def ofR (k : Nat) : List S64 → List S70 → Bool
  | [], [] => true
  | ⟨_, r, g, d, e, kk⟩ :: ns, f :: fs => cntR r f.f0.length && (f.f0.all (fun v => if g = true then dt0 v.f0 && ofR k kk v.f1 else decide (v.f1.length = 0) && (marquetryref09_Of.f k v.f0.f0 v.f0.f1 v.f0.f2 d e).getD false) && ofR k ns fs)
  | _, _ => false
def okV (k : Nat) (x : S64) (v : S74) : Bool := if x.f2 = true then okR k x.f5 v.f1 else (marquetryref09_Of.f k v.f0.f0 v.f0.f1 v.f0.f2 x.f3 x.f4).isSome
def vlR (k : Nat) (x : S64) (v : S74) : Bool := if x.f2 = true then dt0 v.f0 && ofR k x.f5 v.f1 else decide (v.f1.length = 0) && (marquetryref09_Of.f k v.f0.f0 v.f0.f1 v.f0.f2 x.f3 x.f4).getD false
theorem okR_cons (k : Nat) (x : S64) (ns : List S64) (f : S70) (fs : List S70) : okR k (x :: ns) (f :: fs) = (f.f0.all (okV k x) && okR k ns fs) := by
  cases x
  rw [okR]
  rfl
theorem ofR_cons (k : Nat) (x : S64) (ns : List S64) (f : S70) (fs : List S70) : ofR k (x :: ns) (f :: fs) = (cntR x.f1 f.f0.length && (f.f0.all (vlR k x) && ofR k ns fs)) := by
  cases x
  rw [ofR]
  rfl
theorem ofR_len (k : Nat) : ∀ (ns : List S64) (fs : List S70), ns.length ≠ fs.length → ofR k ns fs = false
  | [], [], h => absurd rfl h
  | [], _ :: _, _ => by rw [ofR]; all_goals simp
  | _ :: _, [], _ => by rw [ofR]; all_goals simp
  | x :: ns, f :: fs, h => by
    rw [ofR_cons, ofR_len k ns fs (fun e => h (by simp [e]))]
    simp
def marquetryref17_Of.f (k : Nat) (l0 : List S64) (l1 : List S70) : Option Bool := if okR k l0 l1 = true then some (ofR k l0 l1) else none
/-- What the document's 'Of' does at nodes that are no greater. -/
def ROfAt (k n : Nat) : Prop := ∀ (l0 : List S64), SizeOf.sizeOf l0 ≤ n → ∀ (l1 : List S70), okR k l0 l1 = true → ∀ (A0 : Option Addr) (c0 : Nat) (A1 : Option Addr) (c1 : Nat) (w : World), Kd.C k64 w A0 l0.length l0 → Kd.C k70 w A1 l1.length l1 →
  Calls Tryd.prog 28 #[.slice A0 l0.length c0, .slice A1 l1.length c1] w fun e w' => e = .returned (.bool (ofR k l0 l1)) ∧ Below w.heap.size w w'
theorem notT_ {b : Bool} (h : (!b) = true) : b = false := by
  cases b
  · rfl
  · cases h
theorem notF_ {b : Bool} (h : (!b) = false) : b = true := by
  cases b
  · cases h
  · rfl
theorem el_cells {w0 W : World} {ad : Addr} {a b : Int} {c : ByteArray} {d : Value} (hb : Below w0.heap.size w0 W) (h : w0.cell? ad = some (.int .i64 a) ∧ w0.cell? ⟨ad.block, ad.off + 1, none⟩ = some (.int .i64 b) ∧ w0.cell? ⟨ad.block, ad.off + 2, none⟩ = some (.string c) ∧ w0.cell? ⟨ad.block, ad.off + 3, none⟩ = some d) :
    W.cell? ad = some (.int .i64 a) ∧ W.cell? ⟨ad.block, ad.off + 1, none⟩ = some (.int .i64 b) ∧ W.cell? ⟨ad.block, ad.off + 2, none⟩ = some (.string c) ∧ W.cell? ⟨ad.block, ad.off + 3, none⟩ = some d :=
  ⟨(hb.cell (World.block_lt_of_cell? _ _ h.1)).trans h.1, (hb.cell (World.block_lt_of_cell? _ _ h.2.1)).trans h.2.1, (hb.cell (World.block_lt_of_cell? _ _ h.2.2.1)).trans h.2.2.1, (hb.cell (World.block_lt_of_cell? _ _ h.2.2.2)).trans h.2.2.2⟩
theorem blk_drewO {W : World} {g : Nat} {o : Obj} (h : W.heap[g]? = some o) : W.drew.heap[g]? = some o := h
set_option maxHeartbeats 8000000 in
set_option maxRecDepth 100000 in
theorem rof_step {k n : Nat} (ih : ROfAt k n) : ROfAt k (n + 1) := by
  intro l0 hn l1 hok A0 c0 A1 c1 w hr0 hr1
  by_cases hl : l0.length = l1.length
  case neg =>
    have hz : ofR k l0 l1 = false := ofR_len k l0 l1 hl
    have c1b0 : ((l0.length : Int) != (l1.length : Int)) = true := bne_iff_ne.mpr (by omega)
    have HZ := Lib.hid hz
    clear hz hl
    go_enter Tryd.func28, Tryd.ntmps28
    go_wp2_with fail
    go_ret
    exact ⟨by rw [HZ.out]; rfl, Below.refl _ _⟩
  have c1b0 : ((l0.length : Int) != (l1.length : Int)) = false := bne_eq_false_iff_eq.mpr (by omega)
  have hmax := Kd.C_max hr0
  have HL := Lib.hid hl
  have HN := Lib.hid hn
  clear hl hn
  go_enter Tryd.func28, Tryd.ntmps28
  go_wp2_with fail
  go_loopw [5] (fun v wr => ∃ i : Nat, i ≤ l0.length ∧ v = .int .i64 i ∧ ofR k (l0.drop i) (l1.drop i) = ofR k l0 l1 ∧ okR k (l0.drop i) (l1.drop i) = true ∧ Below w.heap.size w wr) (fun v _ => l0.length - (intOf v).toNat)
  case atStart => exact ⟨0, Nat.zero_le _, rfl, rfl, hok, Below.refl _ _⟩
  case round =>
    obtain ⟨i, hi, rfl, he, hoi, hB⟩ := hrel
    by_cases hlt : i < l0.length
    case neg =>
      have hie : i = l0.length := by omega
      have hz : ofR k l0 l1 = true := by rw [← he, hie, List.drop_length, HL.out, List.drop_length, ofR]
      have HZ := Lib.hid hz
      clear hz he hie
      go_wp2_with fail
      go_ret
      exact ⟨by rw [HZ.out]; rfl, hB⟩
    have hlt1 : i < l1.length := by have := HL.out; omega
    have hwk : IntKind.i64.wrap ((i : Int) + 1) = (i : Int) + 1 := by rw [IntKind.wrap_i64]; omega
    have HSZ := Lib.hid (show SizeOf.sizeOf l0[i].f5 ≤ n by have := szo_mem (List.getElem_mem hlt); have := szo_node l0[i]; have := HN.out; omega)
    rw [List.drop_eq_getElem_cons hlt, List.drop_eq_getElem_cons hlt1, ofR_cons] at he
    rw [List.drop_eq_getElem_cons hlt, List.drop_eq_getElem_cons hlt1, okR_cons] at hoi
    obtain ⟨ad0, P, q, e0, hx0, hx1, hx2, hx3, hx4, hx5, ml, mc⟩ := at_T64 hr0 (i : Int) (by omega) (by omega)
    obtain ⟨ad1, V0, d0, e1, hf0, hd0, mv⟩ := at_T70 hr1 (i : Int) (by omega) (by omega)
    cases e0
    cases e1
    have ex : rd_T64 l0 (i : Int) = l0[i] := by unfold rd_T64; simp [List.getD, hlt]
    have ef : rd_T70 l1 (i : Int) = l1[i] := by unfold rd_T70; simp [List.getD, hlt1]
    simp only [Int.toNat_natCast, ex] at hx0 hx1 hx2 hx3 hx4 hx5 ml mc
    simp only [Int.toNat_natCast, ef] at hf0 hd0 mv
    clear ex ef
    generalize l0[i] = x at *
    generalize l1[i] = f at *
    replace hx0 := (hB.cell (World.block_lt_of_cell? w _ hx0)).trans hx0
    replace hx1 := (hB.cell (World.block_lt_of_cell? w _ hx1)).trans hx1
    replace hx2 := (hB.cell (World.block_lt_of_cell? w _ hx2)).trans hx2
    replace hx3 := (hB.cell (World.block_lt_of_cell? w _ hx3)).trans hx3
    replace hx4 := (hB.cell (World.block_lt_of_cell? w _ hx4)).trans hx4
    replace hx5 := (hB.cell (World.block_lt_of_cell? w _ hx5)).trans hx5
    replace hf0 := (hB.cell (World.block_lt_of_cell? w _ hf0)).trans hf0
    obtain ⟨g, hg⟩ : ∃ g, x.f2 = g := ⟨_, rfl⟩
    rw [hg] at hx2
    have HG := Lib.hid hg
    have HE := Lib.hid he
    have HOI := Lib.hid hoi
    have HMC := Lib.hid mc
    have HML := Lib.hid ml
    have HWK := Lib.hid hwk
    have HSB := Lib.hid (fun (W : World) (hb : Below wr.heap.size wr W) => (show (fun W => (W.cell? (ad0.add (i * 6)) = some (.string x.f0) ∧ W.cell? ⟨(ad0.add (i * 6)).block, (ad0.add (i * 6)).off + 1, none⟩ = some (.int .i64 x.f1) ∧ W.cell? ⟨(ad0.add (i * 6)).block, (ad0.add (i * 6)).off + 2, none⟩ = some (.bool g) ∧ W.cell? ⟨(ad0.add (i * 6)).block, (ad0.add (i * 6)).off + 3, none⟩ = some (.int .i64 x.f3) ∧ W.cell? ⟨(ad0.add (i * 6)).block, (ad0.add (i * 6)).off + 4, none⟩ = some (.int .i64 x.f4) ∧ W.cell? ⟨(ad0.add (i * 6)).block, (ad0.add (i * 6)).off + 5, none⟩ = some (.slice P x.f5.length q)) ∧ W.cell? (ad1.add i) = some (.slice V0 f.f0.length d0)) W from ⟨⟨(hb.cell (World.block_lt_of_cell? wr _ hx0)).trans hx0, (hb.cell (World.block_lt_of_cell? wr _ hx1)).trans hx1, (hb.cell (World.block_lt_of_cell? wr _ hx2)).trans hx2, (hb.cell (World.block_lt_of_cell? wr _ hx3)).trans hx3, (hb.cell (World.block_lt_of_cell? wr _ hx4)).trans hx4, (hb.cell (World.block_lt_of_cell? wr _ hx5)).trans hx5⟩, (hb.cell (World.block_lt_of_cell? wr _ hf0)).trans hf0⟩))
    have HXS := Lib.hid (And.intro hx0 (And.intro hx1 (And.intro hx2 (And.intro hx3 (And.intro hx4 (And.intro hx5 hf0))))))
    clear he hoi hg mc ml hx0 hx1 hx2 hx3 hx4 hx5 hf0
    go_wp2_with fail
    refine wp_region_held_drew (S := (fun W => (W.cell? (ad0.add (i * 6)) = some (.string x.f0) ∧ W.cell? ⟨(ad0.add (i * 6)).block, (ad0.add (i * 6)).off + 1, none⟩ = some (.int .i64 x.f1) ∧ W.cell? ⟨(ad0.add (i * 6)).block, (ad0.add (i * 6)).off + 2, none⟩ = some (.bool g) ∧ W.cell? ⟨(ad0.add (i * 6)).block, (ad0.add (i * 6)).off + 3, none⟩ = some (.int .i64 x.f3) ∧ W.cell? ⟨(ad0.add (i * 6)).block, (ad0.add (i * 6)).off + 4, none⟩ = some (.int .i64 x.f4) ∧ W.cell? ⟨(ad0.add (i * 6)).block, (ad0.add (i * 6)).off + 5, none⟩ = some (.slice P x.f5.length q)) ∧ W.cell? (ad1.add i) = some (.slice V0 f.f0.length d0))) (by kernel_rfl) (HSB.out _ (Below.refl _ _).drew) (fun hHeld => ?_)
    generalize hWd : wr.drew = wd at *
    have hBd : Below wr.heap.size wr wd := by rw [← hWd]; exact (Below.refl _ _).drew
    have hg6 : wr.heap.size ≤ wd.heap.size := hBd.size
    clear hWd
    refine tkZ_ 0 (some 20) rfl rfl (v := ?a1) ?b1 ?c1
    case b1 => (intro W' hSw; (try dsimp only at hSw); go_simp; first | done | with_reducible rfl)
    simp only [Act.put, List.setIfInBounds_toArray, List.set_cons_zero, List.set_cons_succ]
    refine tkZ_ 1 (some 21) rfl rfl (v := ?a2) ?b2 ?c2
    case b2 => (intro W' hSw; (try dsimp only at hSw); go_simp; first | done | with_reducible rfl)
    simp only [Act.put, List.setIfInBounds_toArray, List.set_cons_zero, List.set_cons_succ]
    refine tkZ_ 2 (some 22) rfl rfl (v := ?a3) ?b3 ?c3
    case b3 => (intro W' hSw; (try dsimp only at hSw); go_simp; first | done | with_reducible rfl)
    simp only [Act.put, List.setIfInBounds_toArray, List.set_cons_zero, List.set_cons_succ]
    refine tkZ_ 3 (some 23) rfl rfl (v := ?a4) ?b4 ?c4
    case b4 => (intro W' hSw; (try dsimp only at hSw); go_simp; first | done | with_reducible rfl)
    simp only [Act.put, List.setIfInBounds_toArray, List.set_cons_zero, List.set_cons_succ]
    refine tkZ_ 4 (some 24) rfl rfl (v := ?a5) ?b5 ?c5
    case b5 => (intro W' hSw; (try dsimp only at hSw); go_simp; first | done | with_reducible rfl)
    simp only [Act.put, List.setIfInBounds_toArray, List.set_cons_zero, List.set_cons_succ]
    refine tkZ_ 5 (some 25) rfl rfl (v := ?a6) ?b6 ?c6
    case b6 => (intro W' hSw; (try dsimp only at hSw); go_simp; first | done | with_reducible rfl)
    simp only [Act.put, List.setIfInBounds_toArray, List.set_cons_zero, List.set_cons_succ]
    refine tkZ_ 6 (some 26) rfl rfl (v := ?a7) ?b7 ?c7
    case b7 => (intro W' hSw; (try dsimp only at hSw); go_simp; first | done | with_reducible rfl)
    simp only [Act.put, List.setIfInBounds_toArray, List.set_cons_zero, List.set_cons_succ]
    refine tkZ_ 7 (some 27) rfl rfl (v := ?a8) ?b8 ?c8
    case b8 => (intro W' hSw; (try dsimp only at hSw); go_simp; first | done | with_reducible rfl)
    simp only [Act.put, List.setIfInBounds_toArray, List.set_cons_zero, List.set_cons_succ]
    refine tkZ_ 8 (some 28) rfl rfl (v := ?a9) ?b9 ?c9
    case b9 => (intro W' hSw; (try dsimp only at hSw); go_simp; first | done | with_reducible rfl)
    simp only [Act.put, List.setIfInBounds_toArray, List.set_cons_zero, List.set_cons_succ]
    refine wpAnyH_ready (rs := [9]) (by kernel_rfl) (by simp) (AllReadyH.cons (at_dropN rfl) (fun KC hKC => ?_) AllReadyH.nil)
    go_simp
    have hb1 := below_alloc hBd (.cells #[.string ⟨#[]⟩, .int .i64 0, .bool false, .int .i64 0, .int .i64 0, .slice none 0 0] 64)
    have hk1 := blk_new wd (.cells #[.string ⟨#[]⟩, .int .i64 0, .bool false, .int .i64 0, .int .i64 0, .slice none 0 0] 64)
    refine hKC.out _ _ (HSB.out _ hb1) (fun hHeld => ?_)
    clear hKC KC
    try simp only [Act.put, List.setIfInBounds_toArray, List.set_cons_zero, List.set_cons_succ]
    generalize hw1 : World.alloc wd (.cells #[.string ⟨#[]⟩, .int .i64 0, .bool false, .int .i64 0, .int .i64 0, .slice none 0 0] 64) = w1 at *
    generalize hB6 : wd.heap.size = b6 at *
    clear hw1
    refine wpAnyH_ready (rs := [10]) (by kernel_rfl) (by simp) (AllReadyH.cons (at_dropN rfl) (fun KC hKC => ?_) AllReadyH.nil)
    go_simp
    obtain ⟨⟨e0, e1, e2, e3, e4, e5⟩, f0, f1, f2, f3, f4, f5⟩ := cellsN hk1
    go_simp
    have hb2 := belowN hb1 hg6 (.string x.f0) (.int .i64 x.f1) (.bool g) (.int .i64 x.f3) (.int .i64 x.f4) (.slice P x.f5.length q)
    have hk2 := putN hk1 (.string x.f0) (.int .i64 x.f1) (.bool g) (.int .i64 x.f3) (.int .i64 x.f4) (.slice P x.f5.length q)
    refine hKC.out _ _ (HSB.out _ hb2) (fun hHeld => ?_)
    clear hKC KC
    try simp only [Act.put, List.setIfInBounds_toArray, List.set_cons_zero, List.set_cons_succ]
    clear e0 e1 e2 e3 e4 e5 f0 f1 f2 f3 f4 f5 hk1
    generalize hw2 : (World.setCell (World.setCell (World.setCell (World.setCell (World.setCell (World.setCell w1 ⟨b6, 0, none⟩ (.string x.f0)) ⟨b6, 1, none⟩ (.int .i64 x.f1)) ⟨b6, 2, none⟩ (.bool g)) ⟨b6, 3, none⟩ (.int .i64 x.f3)) ⟨b6, 4, none⟩ (.int .i64 x.f4)) ⟨b6, 5, none⟩ (.slice P x.f5.length q)) = w2 at *
    clear hw2
    refine tkZ_ 11 (some 7) rfl rfl (v := ?a10) ?b10 ?c10
    case b10 => (intro W' hSw; (try dsimp only at hSw); go_simp; first | done | with_reducible rfl)
    simp only [Act.put, List.setIfInBounds_toArray, List.set_cons_zero, List.set_cons_succ]
    refine wpAnyH_done (by kernel_rfl) ?_ _
    have hB2 := below_step hB hb2
    clear hb2 hb1 hBd hg6 hHeld
    obtain ⟨cb, hcb⟩ : ∃ b, (!cntR x.f1 f.f0.length) = b := ⟨_, rfl⟩
    have HCB := Lib.hid hcb
    clear hcb
    obtain ⟨⟨n0, n1, n2, n3, n4, n5⟩, -⟩ := cellsN hk2
    go_upto_region 7 with fail
    go_cut [46] (fun v46 wc => v46 = .bool cb ∧ wc = w2)
    case first =>
      have HCC := HCB.out
      unfold cntR at HCC
      by_cases r0 : x.f1 = 0
      · rw [if_pos r0] at HCC
        have r0a : (x.f1 == 0) = true := beq_iff_eq.mpr r0
        have r1a : (x.f1 == 1) = false := beq_eq_false_iff_ne.mpr (by omega)
        by_cases l1e : f.f0.length = 1
        · have l1a : ((f.f0.length : Int) != 1) = false := bne_eq_false_iff_eq.mpr (by omega)
          rw [decide_eq_true l1e] at HCC
          have HC := Lib.hid HCC
          clear HCC r0 l1e
          go_wp2_with fail
          go_meet
          case rel => exact ⟨by rw [← HC.out]; rfl, rfl⟩
        · have l1a : ((f.f0.length : Int) != 1) = true := bne_iff_ne.mpr (by omega)
          rw [decide_eq_false l1e] at HCC
          have HC := Lib.hid HCC
          clear HCC r0 l1e
          go_wp2_with fail
          go_meet
          case rel => exact ⟨by rw [← HC.out]; rfl, rfl⟩
      · rw [if_neg r0] at HCC
        have r0a : (x.f1 == 0) = false := beq_eq_false_iff_ne.mpr r0
        by_cases r1 : x.f1 = 1
        · rw [if_pos r1] at HCC
          have r1a : (x.f1 == 1) = true := beq_iff_eq.mpr r1
          by_cases l1e : f.f0.length ≤ 1
          · have l1a : decide (1 < (f.f0.length : Int)) = false := decide_eq_false (by omega)
            have l1b : decide (1 < f.f0.length) = false := decide_eq_false (by omega)
            rw [decide_eq_true l1e] at HCC
            have HC := Lib.hid HCC
            clear HCC r0 r1 l1e
            go_wp2_with fail
            go_meet
            case rel => exact ⟨by rw [← HC.out]; rfl, rfl⟩
          · have l1a : decide (1 < (f.f0.length : Int)) = true := decide_eq_true (by omega)
            have l1b : decide (1 < f.f0.length) = true := decide_eq_true (by omega)
            rw [decide_eq_false l1e] at HCC
            have HC := Lib.hid HCC
            clear HCC r0 r1 l1e
            go_wp2_with fail
            go_meet
            case rel => exact ⟨by rw [← HC.out]; rfl, rfl⟩
        · rw [if_neg r1] at HCC
          have r1a : (x.f1 == 1) = false := beq_eq_false_iff_ne.mpr r1
          have HC := Lib.hid HCC
          clear HCC r0 r1
          go_wp2_with fail
          go_meet
          case rel => exact ⟨by rw [← HC.out]; rfl, rfl⟩
    case rest =>
      obtain ⟨rfl, rfl⟩ := hcut
      cases cb with
      | true =>
        have HZ := Lib.hid (show ofR k l0 l1 = false by rw [← HE.out, notT_ HCB.out]; rfl)
        have HB2 := Lib.hid hB2
        clear hB2
        go_wp2_with fail
        go_ret
        exact ⟨by rw [HZ.out]; rfl, HB2.out⟩
      | false =>
      have HCT := Lib.hid (notF_ HCB.out)
      have HE1 := Lib.hid (show (f.f0.all (vlR k x) && ofR k (l0.drop (i + 1)) (l1.drop (i + 1))) = ofR k l0 l1 by rw [← HE.out, HCT.out]; rfl)
      have hmaxv := Kd.C_max mv
      go_wp2_with fail
      go_loopw [8] (fun v wr => ∃ j : Nat, j ≤ f.f0.length ∧ v = .int .i64 j ∧ (f.f0.drop j).all (vlR k x) = f.f0.all (vlR k x) ∧ (f.f0.drop j).all (okV k x) = true ∧ Below w.heap.size w wr ∧ wr.heap[b6]? = some (.cells (ndC x g P q) 64 (0, 0))) (fun v _ => f.f0.length - (intOf v).toNat)
      case atStart => exact ⟨0, Nat.zero_le _, rfl, rfl, by have h := HOI.out; rw [Bool.and_eq_true] at h; exact h.1, hB2, hk2⟩
      case round =>
        clear hB2 hk2 n0 n1 n2 n3 n4 n5
        obtain ⟨j, hj, rfl, ha, ho, hB5, hk3⟩ := hrel
        by_cases hjl : j < f.f0.length
        case neg =>
          have hje : j = f.f0.length := by omega
          have HR := Lib.hid (show ofR k (l0.drop (i + 1)) (l1.drop (i + 1)) = ofR k l0 l1 by rw [← HE1.out, ← ha, hje, List.drop_length, List.all_nil, Bool.true_and])
          have HRO := Lib.hid (show okR k (l0.drop (i + 1)) (l1.drop (i + 1)) = true by have h := HOI.out; rw [Bool.and_eq_true] at h; exact h.2)
          clear hje ha ho
          go_wp2_with fail
          go_roundw
          case rel => exact ⟨i + 1, by omega, by go_num, HR.out, HRO.out, hB5⟩
          case measure => simp [intOf]; omega
        have hwj : IntKind.i64.wrap ((j : Int) + 1) = (j : Int) + 1 := by rw [IntKind.wrap_i64]; omega
        rw [List.drop_eq_getElem_cons hjl, List.all_cons] at ha
        rw [List.drop_eq_getElem_cons hjl, List.all_cons, Bool.and_eq_true] at ho
        obtain ⟨ad2, F, fq, e2, y0, y1, y2, y3, mlf, mcf⟩ := at_T74 mv (j : Int) (by omega) (by omega)
        cases e2
        have ev : rd_T74 f.f0 (j : Int) = f.f0[j] := by unfold rd_T74; simp [List.getD, hjl]
        simp only [Int.toNat_natCast, ev] at y0 y1 y2 y3 mlf mcf
        clear ev
        generalize f.f0[j] = v at *
        have HY := Lib.hid (show wr.cell? (ad2.add (j * 4)) = some (.int .i64 v.f0.f0) ∧ wr.cell? ⟨(ad2.add (j * 4)).block, (ad2.add (j * 4)).off + 1, none⟩ = some (.int .i64 v.f0.f1) ∧ wr.cell? ⟨(ad2.add (j * 4)).block, (ad2.add (j * 4)).off + 2, none⟩ = some (.string v.f0.f2) ∧ wr.cell? ⟨(ad2.add (j * 4)).block, (ad2.add (j * 4)).off + 3, none⟩ = some (.slice F v.f1.length fq) from
          ⟨(hB5.cell (World.block_lt_of_cell? w _ y0)).trans y0, (hB5.cell (World.block_lt_of_cell? w _ y1)).trans y1, (hB5.cell (World.block_lt_of_cell? w _ y2)).trans y2, (hB5.cell (World.block_lt_of_cell? w _ y3)).trans y3⟩)
        have HA := Lib.hid ha
        have HOV := Lib.hid ho.1
        have HEND := Lib.hid (fun (hv : vlR k x v = false) (w' : World) (hb : Below w.heap.size w w') => show Ending.returned (.bool false) = Ending.returned (.bool (ofR k l0 l1)) ∧ Below w.heap.size w w' from ⟨by rw [← HE1.out, ← HA.out, hv]; rfl, hb⟩)
        have HNXT := Lib.hid (fun (hv : vlR k x v = true) => show (f.f0.drop (j + 1)).all (vlR k x) = f.f0.all (vlR k x) by rw [← HA.out, hv, Bool.true_and])
        have HON := Lib.hid ho.2
        have HCF := Lib.hid (And.intro mcf mlf)
        have hb0_3 : Below wr.heap.size wr wr := Below.refl _ _
        clear ha ho mlf mcf y0 y1 y2 y3
        go_wp2_with fail
        cases g with
        | false =>
          have hk4 := blk_drewO hk3
          have hb0_4 := hb0_3.drew
          refine wp_region_held_drew (S := (fun W => (W.cell? ⟨b6, 0, none⟩ = some (.string x.f0) ∧ W.cell? ⟨b6, 1, none⟩ = some (.int .i64 x.f1) ∧ W.cell? ⟨b6, 2, none⟩ = some (.bool false) ∧ W.cell? ⟨b6, 3, none⟩ = some (.int .i64 x.f3) ∧ W.cell? ⟨b6, 4, none⟩ = some (.int .i64 x.f4) ∧ W.cell? ⟨b6, 5, none⟩ = some (.slice P x.f5.length q)) ∧ W.cell? (ad2.add (j * 4)) = some (.int .i64 v.f0.f0) ∧ W.cell? ⟨(ad2.add (j * 4)).block, (ad2.add (j * 4)).off + 1, none⟩ = some (.int .i64 v.f0.f1) ∧ W.cell? ⟨(ad2.add (j * 4)).block, (ad2.add (j * 4)).off + 2, none⟩ = some (.string v.f0.f2) ∧ W.cell? ⟨(ad2.add (j * 4)).block, (ad2.add (j * 4)).off + 3, none⟩ = some (.slice F v.f1.length fq))) (by kernel_rfl) ⟨nd_cells hk4, el_cells hb0_4 HY.out⟩ (fun hHeld => ?_)
          generalize wr.drew = w4d at *
          refine tkZ_ 0 (some 53) rfl rfl (v := ?a11) ?b11 ?c11
          case b11 => (intro W' hSw; (try dsimp only at hSw); go_simp; first | done | with_reducible rfl)
          simp only [Act.put, List.setIfInBounds_toArray, List.set_cons_zero, List.set_cons_succ]
          refine tkZ_ 1 (some 54) rfl rfl (v := ?a12) ?b12 ?c12
          case b12 => (intro W' hSw; (try dsimp only at hSw); go_simp; first | done | with_reducible rfl)
          simp only [Act.put, List.setIfInBounds_toArray, List.set_cons_zero, List.set_cons_succ]
          refine tkZ_ 2 (some 55) rfl rfl (v := ?a13) ?b13 ?c13
          case b13 => (intro W' hSw; (try dsimp only at hSw); go_simp; first | done | with_reducible rfl)
          simp only [Act.put, List.setIfInBounds_toArray, List.set_cons_zero, List.set_cons_succ]
          refine tkN_ 3 (some 56) rfl rfl (by kernel_rfl) (by kernel_rfl) (by kernel_rfl) (fun _ _ _ h => h) (by rfl) (by assumption) rfl ?tkr14_3
          simp only [Act.put, List.setIfInBounds_toArray, List.set_cons_zero, List.set_cons_succ]
          refine tkN_ 4 (some 57) rfl rfl (by kernel_rfl) (by kernel_rfl) (by kernel_rfl) (fun _ _ _ h => h) (by rfl) (by assumption) rfl ?tkr15_4
          simp only [Act.put, List.setIfInBounds_toArray, List.set_cons_zero, List.set_cons_succ]
          refine tkN_ 5 (some 58) rfl rfl (by kernel_rfl) (by kernel_rfl) (by kernel_rfl) (fun _ _ _ h => h) (by rfl) (by assumption) rfl ?tkr16_5
          simp only [Act.put, List.setIfInBounds_toArray, List.set_cons_zero, List.set_cons_succ]
          refine tkN_ 6 (some 59) rfl rfl (by kernel_rfl) (by kernel_rfl) (by kernel_rfl) (fun _ _ _ h => h) (by rfl) (by assumption) rfl ?tkr17_6
          simp only [Act.put, List.setIfInBounds_toArray, List.set_cons_zero, List.set_cons_succ]
          refine tkN_ 7 (some 60) rfl rfl (by kernel_rfl) (by kernel_rfl) (by kernel_rfl) (fun _ _ _ h => h) (by rfl) (by assumption) rfl ?tkr18_7
          simp only [Act.put, List.setIfInBounds_toArray, List.set_cons_zero, List.set_cons_succ]
          refine tkN_ 8 (some 61) rfl rfl (by kernel_rfl) (by kernel_rfl) (by kernel_rfl) (fun _ _ _ h => h) (by rfl) (by assumption) rfl ?tkr19_8
          simp only [Act.put, List.setIfInBounds_toArray, List.set_cons_zero, List.set_cons_succ]
          refine tkN_ 9 (some 62) rfl rfl (by kernel_rfl) (by kernel_rfl) (by kernel_rfl) (fun _ _ _ h => h) (by rfl) (by assumption) rfl ?tkr20_9
          simp only [Act.put, List.setIfInBounds_toArray, List.set_cons_zero, List.set_cons_succ]
          refine tkN_ 10 (some 63) rfl rfl (by kernel_rfl) (by kernel_rfl) (by kernel_rfl) (fun _ _ _ h => h) (by rfl) (by assumption) rfl ?tkr21_10
          simp only [Act.put, List.setIfInBounds_toArray, List.set_cons_zero, List.set_cons_succ]
          refine tkN_ 11 (some 64) rfl rfl (by kernel_rfl) (by kernel_rfl) (by kernel_rfl) (fun _ _ _ h => h) (by rfl) (by assumption) rfl ?tkr22_11
          simp only [Act.put, List.setIfInBounds_toArray, List.set_cons_zero, List.set_cons_succ]
          refine tkN_ 12 (some 65) rfl rfl (by kernel_rfl) (by kernel_rfl) (by kernel_rfl) (fun _ _ _ h => h) (by rfl) (by assumption) rfl ?tkr23_12
          simp only [Act.put, List.setIfInBounds_toArray, List.set_cons_zero, List.set_cons_succ]
          refine tkN_ 13 (some 66) rfl rfl (by kernel_rfl) (by kernel_rfl) (by kernel_rfl) (fun _ _ _ h => h) (by rfl) (by assumption) rfl ?tkr24_13
          simp only [Act.put, List.setIfInBounds_toArray, List.set_cons_zero, List.set_cons_succ]
          refine tkN_ 14 (some 67) rfl rfl (by kernel_rfl) (by kernel_rfl) (by kernel_rfl) (fun _ _ _ h => h) (by rfl) (by assumption) rfl ?tkr25_14
          simp only [Act.put, List.setIfInBounds_toArray, List.set_cons_zero, List.set_cons_succ]
          refine tkN_ 15 (some 68) rfl rfl (by kernel_rfl) (by kernel_rfl) (by kernel_rfl) (fun _ _ _ h => h) (by rfl) (by assumption) rfl ?tkr26_15
          simp only [Act.put, List.setIfInBounds_toArray, List.set_cons_zero, List.set_cons_succ]
          refine tkN_ 16 (some 69) rfl rfl (by kernel_rfl) (by kernel_rfl) (by kernel_rfl) (fun _ _ _ h => h) (by rfl) (by assumption) rfl ?tkr27_16
          simp only [Act.put, List.setIfInBounds_toArray, List.set_cons_zero, List.set_cons_succ]
          refine tkN_ 17 (some 70) rfl rfl (by kernel_rfl) (by kernel_rfl) (by kernel_rfl) (fun _ _ _ h => h) (by rfl) (by assumption) rfl ?tkr28_17
          simp only [Act.put, List.setIfInBounds_toArray, List.set_cons_zero, List.set_cons_succ]
          refine tkN_ 18 (some 71) rfl rfl (by kernel_rfl) (by kernel_rfl) (by kernel_rfl) (fun _ _ _ h => h) (by rfl) (by assumption) rfl ?tkr29_18
          simp only [Act.put, List.setIfInBounds_toArray, List.set_cons_zero, List.set_cons_succ]
          refine tkN_ 19 (some 72) rfl rfl (by kernel_rfl) (by kernel_rfl) (by kernel_rfl) (fun _ _ _ h => h) (by rfl) (by assumption) rfl ?tkr30_19
          simp only [Act.put, List.setIfInBounds_toArray, List.set_cons_zero, List.set_cons_succ]
          refine tkN_ 20 (some 73) rfl rfl (by kernel_rfl) (by kernel_rfl) (by kernel_rfl) (fun _ _ _ h => h) (by rfl) (by assumption) rfl ?tkr31_20
          simp only [Act.put, List.setIfInBounds_toArray, List.set_cons_zero, List.set_cons_succ]
          refine tkZ_ 21 (some 74) rfl rfl (v := ?a32) ?b32 ?c32
          case b32 => (intro W' hSw; (try dsimp only at hSw); go_simp; first | done | with_reducible rfl)
          simp only [Act.put, List.setIfInBounds_toArray, List.set_cons_zero, List.set_cons_succ]
          refine wpAnyH_done (by kernel_rfl) ?_ _
          go_wp2_with fail
          have hk6 := blk_drewO hk4
          have hb0_6 := hb0_4.drew
          refine wp_region_held_drew (S := (fun W => (W.cell? ⟨b6, 0, none⟩ = some (.string x.f0) ∧ W.cell? ⟨b6, 1, none⟩ = some (.int .i64 x.f1) ∧ W.cell? ⟨b6, 2, none⟩ = some (.bool false) ∧ W.cell? ⟨b6, 3, none⟩ = some (.int .i64 x.f3) ∧ W.cell? ⟨b6, 4, none⟩ = some (.int .i64 x.f4) ∧ W.cell? ⟨b6, 5, none⟩ = some (.slice P x.f5.length q)) ∧ W.cell? (ad2.add (j * 4)) = some (.int .i64 v.f0.f0) ∧ W.cell? ⟨(ad2.add (j * 4)).block, (ad2.add (j * 4)).off + 1, none⟩ = some (.int .i64 v.f0.f1) ∧ W.cell? ⟨(ad2.add (j * 4)).block, (ad2.add (j * 4)).off + 2, none⟩ = some (.string v.f0.f2) ∧ W.cell? ⟨(ad2.add (j * 4)).block, (ad2.add (j * 4)).off + 3, none⟩ = some (.slice F v.f1.length fq))) (by kernel_rfl) ⟨nd_cells hk6, el_cells hb0_6 HY.out⟩ (fun hHeld => ?_)
          generalize w4d.drew = w6d at *
          by_cases hz : v.f1.length = 0
          case neg =>
            have hz1 : decide (0 < (v.f1.length : Int)) = true := decide_eq_true (by omega)
            have hz2 : decide (0 < v.f1.length) = true := decide_eq_true (by omega)
            refine tkZ_ 0 (some 75) rfl rfl (v := ?a33) ?b33 ?c33
            case b33 => (intro W' hSw; (try dsimp only at hSw); go_simp; first | done | with_reducible rfl)
            simp only [Act.put, List.setIfInBounds_toArray, List.set_cons_zero, List.set_cons_succ]
            refine tkZ_ 1 (some 76) rfl rfl (v := ?a34) ?b34 ?c34
            case b34 => (intro W' hSw; (try dsimp only at hSw); go_simp; first | done | with_reducible rfl)
            simp only [Act.put, List.setIfInBounds_toArray, List.set_cons_zero, List.set_cons_succ]
            refine tkZ_ 2 (some 77) rfl rfl (v := ?a35) ?b35 ?c35
            case b35 => (intro W' hSw; (try dsimp only at hSw); go_simp; first | done | with_reducible rfl)
            simp only [Act.put, List.setIfInBounds_toArray, List.set_cons_zero, List.set_cons_succ]
            refine tkZ_ 3 (some 78) rfl rfl (v := ?a36) ?b36 ?c36
            case b36 => (intro W' hSw; (try dsimp only at hSw); go_simp; first | done | with_reducible rfl)
            simp only [Act.put, List.setIfInBounds_toArray, List.set_cons_zero, List.set_cons_succ]
            refine tkZ_ 4 (some 79) rfl rfl (v := ?a37) ?b37 ?c37
            case b37 => (intro W' hSw; (try dsimp only at hSw); go_simp; first | done | with_reducible rfl)
            simp only [Act.put, List.setIfInBounds_toArray, List.set_cons_zero, List.set_cons_succ]
            refine tkZ_ 5 (some 80) rfl rfl (v := ?a38) ?b38 ?c38
            case b38 => (intro W' hSw; (try dsimp only at hSw); go_simp; first | done | with_reducible rfl)
            simp only [Act.put, List.setIfInBounds_toArray, List.set_cons_zero, List.set_cons_succ]
            refine tkZ_ 6 (some 81) rfl rfl (v := ?a39) ?b39 ?c39
            case b39 => (intro W' hSw; (try dsimp only at hSw); go_simp; first | done | with_reducible rfl)
            simp only [Act.put, List.setIfInBounds_toArray, List.set_cons_zero, List.set_cons_succ]
            refine tkZ_ 7 (some 82) rfl rfl (v := ?a40) ?b40 ?c40
            case b40 => (intro W' hSw; (try dsimp only at hSw); go_simp; first | done | with_reducible rfl)
            simp only [Act.put, List.setIfInBounds_toArray, List.set_cons_zero, List.set_cons_succ]
            refine tkZ_ 8 (some 83) rfl rfl (v := ?a41) ?b41 ?c41
            case b41 => (intro W' hSw; (try dsimp only at hSw); go_simp; first | done | with_reducible rfl)
            simp only [Act.put, List.setIfInBounds_toArray, List.set_cons_zero, List.set_cons_succ]
            refine tkZ_ 9 (some 84) rfl rfl (v := ?a42) ?b42 ?c42
            case b42 => (intro W' hSw; (try dsimp only at hSw); go_simp; first | done | with_reducible rfl)
            simp only [Act.put, List.setIfInBounds_toArray, List.set_cons_zero, List.set_cons_succ]
            refine tkZ_ 10 (some 85) rfl rfl (v := ?a43) ?b43 ?c43
            case b43 => (intro W' hSw; (try dsimp only at hSw); go_simp; first | done | with_reducible rfl)
            simp only [Act.put, List.setIfInBounds_toArray, List.set_cons_zero, List.set_cons_succ]
            refine tkZ_ 11 (some 86) rfl rfl (v := ?a44) ?b44 ?c44
            case b44 => (intro W' hSw; (try dsimp only at hSw); go_simp; first | done | with_reducible rfl)
            simp only [Act.put, List.setIfInBounds_toArray, List.set_cons_zero, List.set_cons_succ]
            refine tkN_ 12 (some 87) rfl rfl (by kernel_rfl) (by kernel_rfl) (by kernel_rfl) (fun _ _ _ h => h) (by rfl) (by assumption) rfl ?tkr45_12
            simp only [Act.put, List.setIfInBounds_toArray, List.set_cons_zero, List.set_cons_succ]
            refine tkN_ 13 (some 88) rfl rfl (by kernel_rfl) (by kernel_rfl) (by kernel_rfl) (fun _ _ _ h => h) (by rfl) (by assumption) rfl ?tkr46_13
            simp only [Act.put, List.setIfInBounds_toArray, List.set_cons_zero, List.set_cons_succ]
            refine tkN_ 14 (some 89) rfl rfl (by kernel_rfl) (by kernel_rfl) (by kernel_rfl) (fun _ _ _ h => h) (by rfl) (by assumption) rfl ?tkr47_14
            simp only [Act.put, List.setIfInBounds_toArray, List.set_cons_zero, List.set_cons_succ]
            refine tkN_ 15 (some 90) rfl rfl (by kernel_rfl) (by kernel_rfl) (by kernel_rfl) (fun _ _ _ h => h) (by rfl) (by assumption) rfl ?tkr48_15
            simp only [Act.put, List.setIfInBounds_toArray, List.set_cons_zero, List.set_cons_succ]
            refine tkN_ 16 (some 91) rfl rfl (by kernel_rfl) (by kernel_rfl) (by kernel_rfl) (fun _ _ _ h => h) (by rfl) (by assumption) rfl ?tkr49_16
            simp only [Act.put, List.setIfInBounds_toArray, List.set_cons_zero, List.set_cons_succ]
            refine tkN_ 17 (some 92) rfl rfl (by kernel_rfl) (by kernel_rfl) (by kernel_rfl) (fun _ _ _ h => h) (by rfl) (by assumption) rfl ?tkr50_17
            simp only [Act.put, List.setIfInBounds_toArray, List.set_cons_zero, List.set_cons_succ]
            refine tkN_ 18 (some 93) rfl rfl (by kernel_rfl) (by kernel_rfl) (by kernel_rfl) (fun _ _ _ h => h) (by rfl) (by assumption) rfl ?tkr51_18
            simp only [Act.put, List.setIfInBounds_toArray, List.set_cons_zero, List.set_cons_succ]
            refine tkN_ 19 (some 94) rfl rfl (by kernel_rfl) (by kernel_rfl) (by kernel_rfl) (fun _ _ _ h => h) (by rfl) (by assumption) rfl ?tkr52_19
            simp only [Act.put, List.setIfInBounds_toArray, List.set_cons_zero, List.set_cons_succ]
            refine tkN_ 20 (some 95) rfl rfl (by kernel_rfl) (by kernel_rfl) (by kernel_rfl) (fun _ _ _ h => h) (by rfl) (by assumption) rfl ?tkr53_20
            simp only [Act.put, List.setIfInBounds_toArray, List.set_cons_zero, List.set_cons_succ]
            refine tkN_ 21 (some 96) rfl rfl (by kernel_rfl) (by kernel_rfl) (by kernel_rfl) (fun _ _ _ h => h) (by rfl) (by assumption) rfl ?tkr54_21
            simp only [Act.put, List.setIfInBounds_toArray, List.set_cons_zero, List.set_cons_succ]
            refine tkN_ 22 (some 97) rfl rfl (by kernel_rfl) (by kernel_rfl) (by kernel_rfl) (fun _ _ _ h => h) (by rfl) (by assumption) rfl ?tkr55_22
            simp only [Act.put, List.setIfInBounds_toArray, List.set_cons_zero, List.set_cons_succ]
            refine tkN_ 23 (some 98) rfl rfl (by kernel_rfl) (by kernel_rfl) (by kernel_rfl) (fun _ _ _ h => h) (by rfl) (by assumption) rfl ?tkr56_23
            simp only [Act.put, List.setIfInBounds_toArray, List.set_cons_zero, List.set_cons_succ]
            refine tkZ_ 24 (some 99) rfl rfl (v := ?a57) ?b57 ?c57
            case b57 => (intro W' hSw; (try dsimp only at hSw); go_simp; first | done | with_reducible rfl)
            simp only [Act.put, List.setIfInBounds_toArray, List.set_cons_zero, List.set_cons_succ]
            refine tkZ_ 25 (some 100) rfl rfl (v := ?a58) ?b58 ?c58
            case b58 => (intro W' hSw; (try dsimp only at hSw); go_simp; first | done | with_reducible rfl)
            simp only [Act.put, List.setIfInBounds_toArray, List.set_cons_zero, List.set_cons_succ]
            refine wpAnyH_done (by kernel_rfl) ?_ _
            have HV := Lib.hid (show vlR k x v = false by unfold vlR; rw [if_neg (by rw [HG.out]; simp), decide_eq_false hz]; rfl)
            have HB := Lib.hid (below_step hB5 hb0_6)
            go_wp2_with fail
            go_ret
            exact HEND.out HV.out _ HB.out
          have hz1 : decide (0 < (v.f1.length : Int)) = false := decide_eq_false (by omega)
          have hz2 : decide (0 < v.f1.length) = false := decide_eq_false (by omega)
          obtain ⟨o, ho⟩ : ∃ o, marquetryref09_Of.f k v.f0.f0 v.f0.f1 v.f0.f2 x.f3 x.f4 = some o := by
            have h := HOV.out
            unfold okV at h
            rw [if_neg (by rw [HG.out]; simp)] at h
            exact Option.isSome_iff_exists.1 h
          have HOD := Lib.hid ho
          have HZL := Lib.hid hz
          clear ho hz
          cases o with
          | false =>
            refine tkZ_ 0 (some 75) rfl rfl (v := ?a59) ?b59 ?c59
            case b59 => (intro W' hSw; (try dsimp only at hSw); go_simp; first | done | with_reducible rfl)
            simp only [Act.put, List.setIfInBounds_toArray, List.set_cons_zero, List.set_cons_succ]
            refine tkZ_ 1 (some 76) rfl rfl (v := ?a60) ?b60 ?c60
            case b60 => (intro W' hSw; (try dsimp only at hSw); go_simp; first | done | with_reducible rfl)
            simp only [Act.put, List.setIfInBounds_toArray, List.set_cons_zero, List.set_cons_succ]
            refine tkZ_ 2 (some 77) rfl rfl (v := ?a61) ?b61 ?c61
            case b61 => (intro W' hSw; (try dsimp only at hSw); go_simp; first | done | with_reducible rfl)
            simp only [Act.put, List.setIfInBounds_toArray, List.set_cons_zero, List.set_cons_succ]
            refine tkZ_ 3 (some 78) rfl rfl (v := ?a62) ?b62 ?c62
            case b62 => (intro W' hSw; (try dsimp only at hSw); go_simp; first | done | with_reducible rfl)
            simp only [Act.put, List.setIfInBounds_toArray, List.set_cons_zero, List.set_cons_succ]
            refine tkZ_ 4 (some 79) rfl rfl (v := ?a63) ?b63 ?c63
            case b63 => (intro W' hSw; (try dsimp only at hSw); go_simp; first | done | with_reducible rfl)
            simp only [Act.put, List.setIfInBounds_toArray, List.set_cons_zero, List.set_cons_succ]
            refine tkZ_ 5 (some 80) rfl rfl (v := ?a64) ?b64 ?c64
            case b64 => (intro W' hSw; (try dsimp only at hSw); go_simp; first | done | with_reducible rfl)
            simp only [Act.put, List.setIfInBounds_toArray, List.set_cons_zero, List.set_cons_succ]
            refine tkZ_ 6 (some 81) rfl rfl (v := ?a65) ?b65 ?c65
            case b65 => (intro W' hSw; (try dsimp only at hSw); go_simp; first | done | with_reducible rfl)
            simp only [Act.put, List.setIfInBounds_toArray, List.set_cons_zero, List.set_cons_succ]
            refine tkZ_ 7 (some 82) rfl rfl (v := ?a66) ?b66 ?c66
            case b66 => (intro W' hSw; (try dsimp only at hSw); go_simp; first | done | with_reducible rfl)
            simp only [Act.put, List.setIfInBounds_toArray, List.set_cons_zero, List.set_cons_succ]
            refine tkZ_ 8 (some 83) rfl rfl (v := ?a67) ?b67 ?c67
            case b67 => (intro W' hSw; (try dsimp only at hSw); go_simp; first | done | with_reducible rfl)
            simp only [Act.put, List.setIfInBounds_toArray, List.set_cons_zero, List.set_cons_succ]
            refine tkZ_ 9 (some 84) rfl rfl (v := ?a68) ?b68 ?c68
            case b68 => (intro W' hSw; (try dsimp only at hSw); go_simp; first | done | with_reducible rfl)
            simp only [Act.put, List.setIfInBounds_toArray, List.set_cons_zero, List.set_cons_succ]
            refine tkZ_ 10 (some 85) rfl rfl (v := ?a69) ?b69 ?c69
            case b69 => (intro W' hSw; (try dsimp only at hSw); go_simp; first | done | with_reducible rfl)
            simp only [Act.put, List.setIfInBounds_toArray, List.set_cons_zero, List.set_cons_succ]
            refine tkZ_ 11 (some 86) rfl rfl (v := ?a70) ?b70 ?c70
            case b70 => (intro W' hSw; (try dsimp only at hSw); go_simp; first | done | with_reducible rfl)
            simp only [Act.put, List.setIfInBounds_toArray, List.set_cons_zero, List.set_cons_succ]
            refine tkZ_ 12 (some 87) rfl rfl (v := ?a71) ?b71 ?c71
            case b71 => (intro W' hSw; (try dsimp only at hSw); go_simp; first | done | with_reducible rfl)
            simp only [Act.put, List.setIfInBounds_toArray, List.set_cons_zero, List.set_cons_succ]
            refine tkZ_ 13 (some 88) rfl rfl (v := ?a72) ?b72 ?c72
            case b72 => (intro W' hSw; (try dsimp only at hSw); go_simp; first | done | with_reducible rfl)
            simp only [Act.put, List.setIfInBounds_toArray, List.set_cons_zero, List.set_cons_succ]
            refine tkZ_ 14 (some 89) rfl rfl (v := ?a73) ?b73 ?c73
            case b73 => (intro W' hSw; (try dsimp only at hSw); go_simp; first | done | with_reducible rfl)
            simp only [Act.put, List.setIfInBounds_toArray, List.set_cons_zero, List.set_cons_succ]
            refine tkZ_ 15 (some 90) rfl rfl (v := ?a74) ?b74 ?c74
            case b74 => (intro W' hSw; (try dsimp only at hSw); go_simp; first | done | with_reducible rfl)
            simp only [Act.put, List.setIfInBounds_toArray, List.set_cons_zero, List.set_cons_succ]
            refine tkZ_ 16 (some 91) rfl rfl (v := ?a75) ?b75 ?c75
            case b75 => (intro W' hSw; (try dsimp only at hSw); go_simp; first | done | with_reducible rfl)
            simp only [Act.put, List.setIfInBounds_toArray, List.set_cons_zero, List.set_cons_succ]
            refine tkZ_ 17 (some 92) rfl rfl (v := ?a76) ?b76 ?c76
            case b76 => (intro W' hSw; (try dsimp only at hSw); go_simp; first | done | with_reducible rfl)
            simp only [Act.put, List.setIfInBounds_toArray, List.set_cons_zero, List.set_cons_succ]
            refine tkZ_ 18 (some 93) rfl rfl (v := ?a77) ?b77 ?c77
            case b77 => (intro W' hSw; (try dsimp only at hSw); go_simp; first | done | with_reducible rfl)
            simp only [Act.put, List.setIfInBounds_toArray, List.set_cons_zero, List.set_cons_succ]
            refine tkZ_ 19 (some 94) rfl rfl (v := ?a78) ?b78 ?c78
            case b78 => (intro W' hSw; (try dsimp only at hSw); go_simp; first | done | with_reducible rfl)
            simp only [Act.put, List.setIfInBounds_toArray, List.set_cons_zero, List.set_cons_succ]
            refine tkZ_ 20 (some 95) rfl rfl (v := ?a79) ?b79 ?c79
            case b79 => (intro W' hSw; (try dsimp only at hSw); go_simp; first | done | with_reducible rfl)
            simp only [Act.put, List.setIfInBounds_toArray, List.set_cons_zero, List.set_cons_succ]
            refine tkZ_ 21 (some 96) rfl rfl (v := ?a80) ?b80 ?c80
            case b80 => (intro W' hSw; (try dsimp only at hSw); go_simp; first | done | with_reducible rfl)
            simp only [Act.put, List.setIfInBounds_toArray, List.set_cons_zero, List.set_cons_succ]
            refine wpAnyH_ready (rs := [22]) (by kernel_rfl) (by simp) (AllReadyH.cons (at_dropN rfl) (fun KC hKC => ?_) AllReadyH.nil)
            go_simp
            refine (marquetryref09_Of.calls k v.f0.f0 v.f0.f1 v.f0.f2 x.f3 x.f4 _ _ HOD.out).mono ?_
            rintro e w7 ⟨rfl, hb7⟩
            have hb0_7 := below_step hb0_6 hb7
            have hk7 := blk_below hk6 hb7
            refine hKC.out _ _ ⟨nd_cells hk7, el_cells hb0_7 HY.out⟩ (fun hHeld => ?_)
            clear hKC KC
            try simp only [Act.put, List.setIfInBounds_toArray, List.set_cons_zero, List.set_cons_succ]
            refine tkZ_ 23 (some 98) rfl rfl (v := ?a81) ?b81 ?c81
            case b81 => (intro W' hSw; (try dsimp only at hSw); go_simp; first | done | with_reducible rfl)
            simp only [Act.put, List.setIfInBounds_toArray, List.set_cons_zero, List.set_cons_succ]
            refine tkZ_ 24 (some 99) rfl rfl (v := ?a82) ?b82 ?c82
            case b82 => (intro W' hSw; (try dsimp only at hSw); go_simp; first | done | with_reducible rfl)
            simp only [Act.put, List.setIfInBounds_toArray, List.set_cons_zero, List.set_cons_succ]
            refine tkZ_ 25 (some 100) rfl rfl (v := ?a83) ?b83 ?c83
            case b83 => (intro W' hSw; (try dsimp only at hSw); go_simp; first | done | with_reducible rfl)
            simp only [Act.put, List.setIfInBounds_toArray, List.set_cons_zero, List.set_cons_succ]
            refine wpAnyH_done (by kernel_rfl) ?_ _
            have HV := Lib.hid (show vlR k x v = false by unfold vlR; rw [if_neg (by rw [HG.out]; simp), HOD.out, decide_eq_true HZL.out]; rfl)
            have HB := Lib.hid (below_step hB5 hb0_7)
            go_wp2_with fail
            go_ret
            exact HEND.out HV.out _ HB.out
          | true =>
            refine tkZ_ 0 (some 75) rfl rfl (v := ?a84) ?b84 ?c84
            case b84 => (intro W' hSw; (try dsimp only at hSw); go_simp; first | done | with_reducible rfl)
            simp only [Act.put, List.setIfInBounds_toArray, List.set_cons_zero, List.set_cons_succ]
            refine tkZ_ 1 (some 76) rfl rfl (v := ?a85) ?b85 ?c85
            case b85 => (intro W' hSw; (try dsimp only at hSw); go_simp; first | done | with_reducible rfl)
            simp only [Act.put, List.setIfInBounds_toArray, List.set_cons_zero, List.set_cons_succ]
            refine tkZ_ 2 (some 77) rfl rfl (v := ?a86) ?b86 ?c86
            case b86 => (intro W' hSw; (try dsimp only at hSw); go_simp; first | done | with_reducible rfl)
            simp only [Act.put, List.setIfInBounds_toArray, List.set_cons_zero, List.set_cons_succ]
            refine tkZ_ 3 (some 78) rfl rfl (v := ?a87) ?b87 ?c87
            case b87 => (intro W' hSw; (try dsimp only at hSw); go_simp; first | done | with_reducible rfl)
            simp only [Act.put, List.setIfInBounds_toArray, List.set_cons_zero, List.set_cons_succ]
            refine tkZ_ 4 (some 79) rfl rfl (v := ?a88) ?b88 ?c88
            case b88 => (intro W' hSw; (try dsimp only at hSw); go_simp; first | done | with_reducible rfl)
            simp only [Act.put, List.setIfInBounds_toArray, List.set_cons_zero, List.set_cons_succ]
            refine tkZ_ 5 (some 80) rfl rfl (v := ?a89) ?b89 ?c89
            case b89 => (intro W' hSw; (try dsimp only at hSw); go_simp; first | done | with_reducible rfl)
            simp only [Act.put, List.setIfInBounds_toArray, List.set_cons_zero, List.set_cons_succ]
            refine tkZ_ 6 (some 81) rfl rfl (v := ?a90) ?b90 ?c90
            case b90 => (intro W' hSw; (try dsimp only at hSw); go_simp; first | done | with_reducible rfl)
            simp only [Act.put, List.setIfInBounds_toArray, List.set_cons_zero, List.set_cons_succ]
            refine tkZ_ 7 (some 82) rfl rfl (v := ?a91) ?b91 ?c91
            case b91 => (intro W' hSw; (try dsimp only at hSw); go_simp; first | done | with_reducible rfl)
            simp only [Act.put, List.setIfInBounds_toArray, List.set_cons_zero, List.set_cons_succ]
            refine tkZ_ 8 (some 83) rfl rfl (v := ?a92) ?b92 ?c92
            case b92 => (intro W' hSw; (try dsimp only at hSw); go_simp; first | done | with_reducible rfl)
            simp only [Act.put, List.setIfInBounds_toArray, List.set_cons_zero, List.set_cons_succ]
            refine tkZ_ 9 (some 84) rfl rfl (v := ?a93) ?b93 ?c93
            case b93 => (intro W' hSw; (try dsimp only at hSw); go_simp; first | done | with_reducible rfl)
            simp only [Act.put, List.setIfInBounds_toArray, List.set_cons_zero, List.set_cons_succ]
            refine tkZ_ 10 (some 85) rfl rfl (v := ?a94) ?b94 ?c94
            case b94 => (intro W' hSw; (try dsimp only at hSw); go_simp; first | done | with_reducible rfl)
            simp only [Act.put, List.setIfInBounds_toArray, List.set_cons_zero, List.set_cons_succ]
            refine tkZ_ 11 (some 86) rfl rfl (v := ?a95) ?b95 ?c95
            case b95 => (intro W' hSw; (try dsimp only at hSw); go_simp; first | done | with_reducible rfl)
            simp only [Act.put, List.setIfInBounds_toArray, List.set_cons_zero, List.set_cons_succ]
            refine tkZ_ 12 (some 87) rfl rfl (v := ?a96) ?b96 ?c96
            case b96 => (intro W' hSw; (try dsimp only at hSw); go_simp; first | done | with_reducible rfl)
            simp only [Act.put, List.setIfInBounds_toArray, List.set_cons_zero, List.set_cons_succ]
            refine tkZ_ 13 (some 88) rfl rfl (v := ?a97) ?b97 ?c97
            case b97 => (intro W' hSw; (try dsimp only at hSw); go_simp; first | done | with_reducible rfl)
            simp only [Act.put, List.setIfInBounds_toArray, List.set_cons_zero, List.set_cons_succ]
            refine tkZ_ 14 (some 89) rfl rfl (v := ?a98) ?b98 ?c98
            case b98 => (intro W' hSw; (try dsimp only at hSw); go_simp; first | done | with_reducible rfl)
            simp only [Act.put, List.setIfInBounds_toArray, List.set_cons_zero, List.set_cons_succ]
            refine tkZ_ 15 (some 90) rfl rfl (v := ?a99) ?b99 ?c99
            case b99 => (intro W' hSw; (try dsimp only at hSw); go_simp; first | done | with_reducible rfl)
            simp only [Act.put, List.setIfInBounds_toArray, List.set_cons_zero, List.set_cons_succ]
            refine tkZ_ 16 (some 91) rfl rfl (v := ?a100) ?b100 ?c100
            case b100 => (intro W' hSw; (try dsimp only at hSw); go_simp; first | done | with_reducible rfl)
            simp only [Act.put, List.setIfInBounds_toArray, List.set_cons_zero, List.set_cons_succ]
            refine tkZ_ 17 (some 92) rfl rfl (v := ?a101) ?b101 ?c101
            case b101 => (intro W' hSw; (try dsimp only at hSw); go_simp; first | done | with_reducible rfl)
            simp only [Act.put, List.setIfInBounds_toArray, List.set_cons_zero, List.set_cons_succ]
            refine tkZ_ 18 (some 93) rfl rfl (v := ?a102) ?b102 ?c102
            case b102 => (intro W' hSw; (try dsimp only at hSw); go_simp; first | done | with_reducible rfl)
            simp only [Act.put, List.setIfInBounds_toArray, List.set_cons_zero, List.set_cons_succ]
            refine tkZ_ 19 (some 94) rfl rfl (v := ?a103) ?b103 ?c103
            case b103 => (intro W' hSw; (try dsimp only at hSw); go_simp; first | done | with_reducible rfl)
            simp only [Act.put, List.setIfInBounds_toArray, List.set_cons_zero, List.set_cons_succ]
            refine tkZ_ 20 (some 95) rfl rfl (v := ?a104) ?b104 ?c104
            case b104 => (intro W' hSw; (try dsimp only at hSw); go_simp; first | done | with_reducible rfl)
            simp only [Act.put, List.setIfInBounds_toArray, List.set_cons_zero, List.set_cons_succ]
            refine tkZ_ 21 (some 96) rfl rfl (v := ?a105) ?b105 ?c105
            case b105 => (intro W' hSw; (try dsimp only at hSw); go_simp; first | done | with_reducible rfl)
            simp only [Act.put, List.setIfInBounds_toArray, List.set_cons_zero, List.set_cons_succ]
            refine wpAnyH_ready (rs := [22]) (by kernel_rfl) (by simp) (AllReadyH.cons (at_dropN rfl) (fun KC hKC => ?_) AllReadyH.nil)
            go_simp
            refine (marquetryref09_Of.calls k v.f0.f0 v.f0.f1 v.f0.f2 x.f3 x.f4 _ _ HOD.out).mono ?_
            rintro e w7 ⟨rfl, hb7⟩
            have hb0_7 := below_step hb0_6 hb7
            have hk7 := blk_below hk6 hb7
            refine hKC.out _ _ ⟨nd_cells hk7, el_cells hb0_7 HY.out⟩ (fun hHeld => ?_)
            clear hKC KC
            try simp only [Act.put, List.setIfInBounds_toArray, List.set_cons_zero, List.set_cons_succ]
            refine tkZ_ 23 (some 98) rfl rfl (v := ?a106) ?b106 ?c106
            case b106 => (intro W' hSw; (try dsimp only at hSw); go_simp; first | done | with_reducible rfl)
            simp only [Act.put, List.setIfInBounds_toArray, List.set_cons_zero, List.set_cons_succ]
            refine tkZ_ 24 (some 99) rfl rfl (v := ?a107) ?b107 ?c107
            case b107 => (intro W' hSw; (try dsimp only at hSw); go_simp; first | done | with_reducible rfl)
            simp only [Act.put, List.setIfInBounds_toArray, List.set_cons_zero, List.set_cons_succ]
            refine tkZ_ 25 (some 100) rfl rfl (v := ?a108) ?b108 ?c108
            case b108 => (intro W' hSw; (try dsimp only at hSw); go_simp; first | done | with_reducible rfl)
            simp only [Act.put, List.setIfInBounds_toArray, List.set_cons_zero, List.set_cons_succ]
            refine wpAnyH_done (by kernel_rfl) ?_ _
            have HV := Lib.hid (show vlR k x v = true by unfold vlR; rw [if_neg (by rw [HG.out]; simp), HOD.out, decide_eq_true HZL.out]; rfl)
            go_wp2_with fail
            first | exact ⟨⟨j + 1, by omega, by go_num, HNXT.out HV.out, HON.out, below_step hB5 hb0_7, hk7⟩, by simp [intOf]; omega⟩ | (go_roundw; (case rel => exact ⟨j + 1, by omega, by go_num, HNXT.out HV.out, HON.out, below_step hB5 hb0_7, hk7⟩); (case measure => (simp [intOf]; omega)))
        | true =>
          obtain ⟨t0, ht0⟩ : ∃ t, (v.f0.f0 == 0) = t := ⟨_, rfl⟩
          obtain ⟨t1, ht1⟩ : ∃ t, (v.f0.f1 == 0) = t := ⟨_, rfl⟩
          obtain ⟨t2, ht2⟩ : ∃ t, (v.f0.f2.toList == ([] : List UInt8)) = t := ⟨_, rfl⟩
          have hdt := dt0_is v.f0
          rw [ht0, ht1, ht2] at hdt
          cases hd : dt0 v.f0 with
          | false =>
            rw [hd, Bool.not_false] at hdt
            have hk4 := blk_drewO hk3
            have hb0_4 := hb0_3.drew
            refine wp_region_held_drew (S := (fun W => (W.cell? ⟨b6, 0, none⟩ = some (.string x.f0) ∧ W.cell? ⟨b6, 1, none⟩ = some (.int .i64 x.f1) ∧ W.cell? ⟨b6, 2, none⟩ = some (.bool true) ∧ W.cell? ⟨b6, 3, none⟩ = some (.int .i64 x.f3) ∧ W.cell? ⟨b6, 4, none⟩ = some (.int .i64 x.f4) ∧ W.cell? ⟨b6, 5, none⟩ = some (.slice P x.f5.length q)) ∧ W.cell? (ad2.add (j * 4)) = some (.int .i64 v.f0.f0) ∧ W.cell? ⟨(ad2.add (j * 4)).block, (ad2.add (j * 4)).off + 1, none⟩ = some (.int .i64 v.f0.f1) ∧ W.cell? ⟨(ad2.add (j * 4)).block, (ad2.add (j * 4)).off + 2, none⟩ = some (.string v.f0.f2) ∧ W.cell? ⟨(ad2.add (j * 4)).block, (ad2.add (j * 4)).off + 3, none⟩ = some (.slice F v.f1.length fq))) (by kernel_rfl) ⟨nd_cells hk4, el_cells hb0_4 HY.out⟩ (fun hHeld => ?_)
            generalize wr.drew = w4d at *
            refine tkZ_ 0 (some 53) rfl rfl (v := ?a109) ?b109 ?c109
            case b109 => (intro W' hSw; (try dsimp only at hSw); go_simp; first | done | with_reducible rfl)
            simp only [Act.put, List.setIfInBounds_toArray, List.set_cons_zero, List.set_cons_succ]
            refine tkZ_ 1 (some 54) rfl rfl (v := ?a110) ?b110 ?c110
            case b110 => (intro W' hSw; (try dsimp only at hSw); go_simp; first | done | with_reducible rfl)
            simp only [Act.put, List.setIfInBounds_toArray, List.set_cons_zero, List.set_cons_succ]
            refine tkZ_ 2 (some 55) rfl rfl (v := ?a111) ?b111 ?c111
            case b111 => (intro W' hSw; (try dsimp only at hSw); go_simp; first | done | with_reducible rfl)
            simp only [Act.put, List.setIfInBounds_toArray, List.set_cons_zero, List.set_cons_succ]
            refine tkZ_ 3 (some 56) rfl rfl (v := ?a112) ?b112 ?c112
            case b112 => (intro W' hSw; (try dsimp only at hSw); go_simp; first | done | with_reducible rfl)
            simp only [Act.put, List.setIfInBounds_toArray, List.set_cons_zero, List.set_cons_succ]
            refine tkZ_ 4 (some 57) rfl rfl (v := ?a113) ?b113 ?c113
            case b113 => (intro W' hSw; (try dsimp only at hSw); go_simp; first | done | with_reducible rfl)
            simp only [Act.put, List.setIfInBounds_toArray, List.set_cons_zero, List.set_cons_succ]
            refine tkZ_ 5 (some 58) rfl rfl (v := ?a114) ?b114 ?c114
            case b114 => (intro W' hSw; (try dsimp only at hSw); go_simp; first | done | with_reducible rfl)
            simp only [Act.put, List.setIfInBounds_toArray, List.set_cons_zero, List.set_cons_succ]
            refine tkZ_ 6 (some 59) rfl rfl (v := ?a115) ?b115 ?c115
            case b115 => (intro W' hSw; (try dsimp only at hSw); go_simp; first | done | with_reducible rfl)
            simp only [Act.put, List.setIfInBounds_toArray, List.set_cons_zero, List.set_cons_succ]
            refine tkZ_ 7 (some 60) rfl rfl (v := ?a116) ?b116 ?c116
            case b116 => (intro W' hSw; (try dsimp only at hSw); go_simp; first | done | with_reducible rfl)
            simp only [Act.put, List.setIfInBounds_toArray, List.set_cons_zero, List.set_cons_succ]
            refine tkZ_ 8 (some 61) rfl rfl (v := ?a117) ?b117 ?c117
            case b117 => (intro W' hSw; (try dsimp only at hSw); go_simp; first | done | with_reducible rfl)
            simp only [Act.put, List.setIfInBounds_toArray, List.set_cons_zero, List.set_cons_succ]
            refine tkZ_ 9 (some 62) rfl rfl (v := ?a118) ?b118 ?c118
            case b118 => (intro W' hSw; (try dsimp only at hSw); go_simp; first | done | with_reducible rfl)
            simp only [Act.put, List.setIfInBounds_toArray, List.set_cons_zero, List.set_cons_succ]
            refine tkZ_ 10 (some 63) rfl rfl (v := ?a119) ?b119 ?c119
            case b119 => (intro W' hSw; (try dsimp only at hSw); go_simp; first | done | with_reducible rfl)
            simp only [Act.put, List.setIfInBounds_toArray, List.set_cons_zero, List.set_cons_succ]
            refine tkN_ 11 (some 64) rfl rfl (by kernel_rfl) (by kernel_rfl) (by kernel_rfl) (fun _ _ _ h => h) (by rfl) (by assumption) rfl ?tkr120_11
            simp only [Act.put, List.setIfInBounds_toArray, List.set_cons_zero, List.set_cons_succ]
            refine tkN_ 12 (some 65) rfl rfl (by kernel_rfl) (by kernel_rfl) (by kernel_rfl) (fun _ _ _ h => h) (by rfl) (by assumption) rfl ?tkr121_12
            simp only [Act.put, List.setIfInBounds_toArray, List.set_cons_zero, List.set_cons_succ]
            refine tkN_ 13 (some 66) rfl rfl (by kernel_rfl) (by kernel_rfl) (by kernel_rfl) (fun _ _ _ h => h) (by rfl) (by assumption) rfl ?tkr122_13
            simp only [Act.put, List.setIfInBounds_toArray, List.set_cons_zero, List.set_cons_succ]
            refine tkN_ 14 (some 67) rfl rfl (by kernel_rfl) (by kernel_rfl) (by kernel_rfl) (fun _ _ _ h => h) (by rfl) (by assumption) rfl ?tkr123_14
            simp only [Act.put, List.setIfInBounds_toArray, List.set_cons_zero, List.set_cons_succ]
            refine tkN_ 15 (some 68) rfl rfl (by kernel_rfl) (by kernel_rfl) (by kernel_rfl) (fun _ _ _ h => h) (by rfl) (by assumption) rfl ?tkr124_15
            simp only [Act.put, List.setIfInBounds_toArray, List.set_cons_zero, List.set_cons_succ]
            refine tkN_ 16 (some 69) rfl rfl (by kernel_rfl) (by kernel_rfl) (by kernel_rfl) (fun _ _ _ h => h) (by rfl) (by assumption) rfl ?tkr125_16
            simp only [Act.put, List.setIfInBounds_toArray, List.set_cons_zero, List.set_cons_succ]
            refine tkN_ 17 (some 70) rfl rfl (by kernel_rfl) (by kernel_rfl) (by kernel_rfl) (fun _ _ _ h => h) (by rfl) (by assumption) rfl ?tkr126_17
            simp only [Act.put, List.setIfInBounds_toArray, List.set_cons_zero, List.set_cons_succ]
            refine tkN_ 18 (some 71) rfl rfl (by kernel_rfl) (by kernel_rfl) (by kernel_rfl) (fun _ _ _ h => h) (by rfl) (by assumption) rfl ?tkr127_18
            simp only [Act.put, List.setIfInBounds_toArray, List.set_cons_zero, List.set_cons_succ]
            refine tkN_ 19 (some 72) rfl rfl (by kernel_rfl) (by kernel_rfl) (by kernel_rfl) (fun _ _ _ h => h) (by rfl) (by assumption) rfl ?tkr128_19
            simp only [Act.put, List.setIfInBounds_toArray, List.set_cons_zero, List.set_cons_succ]
            refine tkZ_ 20 (some 73) rfl rfl (v := ?a129) ?b129 ?c129
            case b129 => (intro W' hSw; (try dsimp only at hSw); go_simp; first | done | with_reducible rfl)
            simp only [Act.put, List.setIfInBounds_toArray, List.set_cons_zero, List.set_cons_succ]
            refine tkZ_ 21 (some 74) rfl rfl (v := ?a130) ?b130 ?c130
            case b130 => (intro W' hSw; (try dsimp only at hSw); go_simp; first | done | with_reducible rfl)
            simp only [Act.put, List.setIfInBounds_toArray, List.set_cons_zero, List.set_cons_succ]
            refine wpAnyH_done (by kernel_rfl) ?_ _
            have HV := Lib.hid (show vlR k x v = false by unfold vlR; rw [if_pos HG.out, hd]; rfl)
            have HB := Lib.hid (below_step hB5 hb0_4)
            go_wp2_with fail
            go_ret
            exact HEND.out HV.out _ HB.out
          | true =>
            rw [hd, Bool.not_true] at hdt
            have hokk : okR k x.f5 v.f1 = true := by
              have h := HOV.out
              unfold okV at h
              rwa [if_pos HG.out] at h
            have hk4 := blk_drewO hk3
            have hb0_4 := hb0_3.drew
            refine wp_region_held_drew (S := (fun W => (W.cell? ⟨b6, 0, none⟩ = some (.string x.f0) ∧ W.cell? ⟨b6, 1, none⟩ = some (.int .i64 x.f1) ∧ W.cell? ⟨b6, 2, none⟩ = some (.bool true) ∧ W.cell? ⟨b6, 3, none⟩ = some (.int .i64 x.f3) ∧ W.cell? ⟨b6, 4, none⟩ = some (.int .i64 x.f4) ∧ W.cell? ⟨b6, 5, none⟩ = some (.slice P x.f5.length q)) ∧ W.cell? (ad2.add (j * 4)) = some (.int .i64 v.f0.f0) ∧ W.cell? ⟨(ad2.add (j * 4)).block, (ad2.add (j * 4)).off + 1, none⟩ = some (.int .i64 v.f0.f1) ∧ W.cell? ⟨(ad2.add (j * 4)).block, (ad2.add (j * 4)).off + 2, none⟩ = some (.string v.f0.f2) ∧ W.cell? ⟨(ad2.add (j * 4)).block, (ad2.add (j * 4)).off + 3, none⟩ = some (.slice F v.f1.length fq))) (by kernel_rfl) ⟨nd_cells hk4, el_cells hb0_4 HY.out⟩ (fun hHeld => ?_)
            generalize wr.drew = w4d at *
            have HC := ih x.f5 HSZ.out v.f1 hokk P q F fq _ (Kd.C_below HMC.out (below_step hB5 hb0_4)) (Kd.C_below HCF.out.1 (below_step hB5 hb0_4))
            cases hob : ofR k x.f5 v.f1 with
            | false =>
              rw [hob] at HC
              refine tkZ_ 0 (some 53) rfl rfl (v := ?a131) ?b131 ?c131
              case b131 => (intro W' hSw; (try dsimp only at hSw); go_simp; first | done | with_reducible rfl)
              simp only [Act.put, List.setIfInBounds_toArray, List.set_cons_zero, List.set_cons_succ]
              refine tkZ_ 1 (some 54) rfl rfl (v := ?a132) ?b132 ?c132
              case b132 => (intro W' hSw; (try dsimp only at hSw); go_simp; first | done | with_reducible rfl)
              simp only [Act.put, List.setIfInBounds_toArray, List.set_cons_zero, List.set_cons_succ]
              refine tkZ_ 2 (some 55) rfl rfl (v := ?a133) ?b133 ?c133
              case b133 => (intro W' hSw; (try dsimp only at hSw); go_simp; first | done | with_reducible rfl)
              simp only [Act.put, List.setIfInBounds_toArray, List.set_cons_zero, List.set_cons_succ]
              refine tkZ_ 3 (some 56) rfl rfl (v := ?a134) ?b134 ?c134
              case b134 => (intro W' hSw; (try dsimp only at hSw); go_simp; first | done | with_reducible rfl)
              simp only [Act.put, List.setIfInBounds_toArray, List.set_cons_zero, List.set_cons_succ]
              refine tkZ_ 4 (some 57) rfl rfl (v := ?a135) ?b135 ?c135
              case b135 => (intro W' hSw; (try dsimp only at hSw); go_simp; first | done | with_reducible rfl)
              simp only [Act.put, List.setIfInBounds_toArray, List.set_cons_zero, List.set_cons_succ]
              refine tkZ_ 5 (some 58) rfl rfl (v := ?a136) ?b136 ?c136
              case b136 => (intro W' hSw; (try dsimp only at hSw); go_simp; first | done | with_reducible rfl)
              simp only [Act.put, List.setIfInBounds_toArray, List.set_cons_zero, List.set_cons_succ]
              refine tkZ_ 6 (some 59) rfl rfl (v := ?a137) ?b137 ?c137
              case b137 => (intro W' hSw; (try dsimp only at hSw); go_simp; first | done | with_reducible rfl)
              simp only [Act.put, List.setIfInBounds_toArray, List.set_cons_zero, List.set_cons_succ]
              refine tkZ_ 7 (some 60) rfl rfl (v := ?a138) ?b138 ?c138
              case b138 => (intro W' hSw; (try dsimp only at hSw); go_simp; first | done | with_reducible rfl)
              simp only [Act.put, List.setIfInBounds_toArray, List.set_cons_zero, List.set_cons_succ]
              refine tkZ_ 8 (some 61) rfl rfl (v := ?a139) ?b139 ?c139
              case b139 => (intro W' hSw; (try dsimp only at hSw); go_simp; first | done | with_reducible rfl)
              simp only [Act.put, List.setIfInBounds_toArray, List.set_cons_zero, List.set_cons_succ]
              refine tkZ_ 9 (some 62) rfl rfl (v := ?a140) ?b140 ?c140
              case b140 => (intro W' hSw; (try dsimp only at hSw); go_simp; first | done | with_reducible rfl)
              simp only [Act.put, List.setIfInBounds_toArray, List.set_cons_zero, List.set_cons_succ]
              refine tkZ_ 10 (some 63) rfl rfl (v := ?a141) ?b141 ?c141
              case b141 => (intro W' hSw; (try dsimp only at hSw); go_simp; first | done | with_reducible rfl)
              simp only [Act.put, List.setIfInBounds_toArray, List.set_cons_zero, List.set_cons_succ]
              refine tkZ_ 11 (some 64) rfl rfl (v := ?a142) ?b142 ?c142
              case b142 => (intro W' hSw; (try dsimp only at hSw); go_simp; first | done | with_reducible rfl)
              simp only [Act.put, List.setIfInBounds_toArray, List.set_cons_zero, List.set_cons_succ]
              refine tkZ_ 12 (some 65) rfl rfl (v := ?a143) ?b143 ?c143
              case b143 => (intro W' hSw; (try dsimp only at hSw); go_simp; first | done | with_reducible rfl)
              simp only [Act.put, List.setIfInBounds_toArray, List.set_cons_zero, List.set_cons_succ]
              refine tkZ_ 13 (some 66) rfl rfl (v := ?a144) ?b144 ?c144
              case b144 => (intro W' hSw; (try dsimp only at hSw); go_simp; first | done | with_reducible rfl)
              simp only [Act.put, List.setIfInBounds_toArray, List.set_cons_zero, List.set_cons_succ]
              refine tkZ_ 14 (some 67) rfl rfl (v := ?a145) ?b145 ?c145
              case b145 => (intro W' hSw; (try dsimp only at hSw); go_simp; first | done | with_reducible rfl)
              simp only [Act.put, List.setIfInBounds_toArray, List.set_cons_zero, List.set_cons_succ]
              refine tkZ_ 15 (some 68) rfl rfl (v := ?a146) ?b146 ?c146
              case b146 => (intro W' hSw; (try dsimp only at hSw); go_simp; first | done | with_reducible rfl)
              simp only [Act.put, List.setIfInBounds_toArray, List.set_cons_zero, List.set_cons_succ]
              refine tkZ_ 16 (some 69) rfl rfl (v := ?a147) ?b147 ?c147
              case b147 => (intro W' hSw; (try dsimp only at hSw); go_simp; first | done | with_reducible rfl)
              simp only [Act.put, List.setIfInBounds_toArray, List.set_cons_zero, List.set_cons_succ]
              refine tkZ_ 17 (some 70) rfl rfl (v := ?a148) ?b148 ?c148
              case b148 => (intro W' hSw; (try dsimp only at hSw); go_simp; first | done | with_reducible rfl)
              simp only [Act.put, List.setIfInBounds_toArray, List.set_cons_zero, List.set_cons_succ]
              refine wpAnyH_ready (rs := [18]) (by kernel_rfl) (by simp) (AllReadyH.cons (at_dropN rfl) (fun KC hKC => ?_) AllReadyH.nil)
              go_simp
              refine HC.mono ?_
              rintro e w5 ⟨rfl, hb5⟩
              have hb0_5 := below_step hb0_4 hb5
              have hk5 := blk_below hk4 hb5
              refine hKC.out _ _ ⟨nd_cells hk5, el_cells hb0_5 HY.out⟩ (fun hHeld => ?_)
              clear hKC KC
              try simp only [Act.put, List.setIfInBounds_toArray, List.set_cons_zero, List.set_cons_succ]
              refine tkZ_ 19 (some 72) rfl rfl (v := ?a149) ?b149 ?c149
              case b149 => (intro W' hSw; (try dsimp only at hSw); go_simp; first | done | with_reducible rfl)
              simp only [Act.put, List.setIfInBounds_toArray, List.set_cons_zero, List.set_cons_succ]
              refine tkZ_ 20 (some 73) rfl rfl (v := ?a150) ?b150 ?c150
              case b150 => (intro W' hSw; (try dsimp only at hSw); go_simp; first | done | with_reducible rfl)
              simp only [Act.put, List.setIfInBounds_toArray, List.set_cons_zero, List.set_cons_succ]
              refine tkZ_ 21 (some 74) rfl rfl (v := ?a151) ?b151 ?c151
              case b151 => (intro W' hSw; (try dsimp only at hSw); go_simp; first | done | with_reducible rfl)
              simp only [Act.put, List.setIfInBounds_toArray, List.set_cons_zero, List.set_cons_succ]
              refine wpAnyH_done (by kernel_rfl) ?_ _
              have HV := Lib.hid (show vlR k x v = false by unfold vlR; rw [if_pos HG.out, hd, hob]; rfl)
              have HB := Lib.hid (below_step hB5 hb0_5)
              go_wp2_with fail
              go_ret
              exact HEND.out HV.out _ HB.out
            | true =>
              rw [hob] at HC
              refine tkZ_ 0 (some 53) rfl rfl (v := ?a152) ?b152 ?c152
              case b152 => (intro W' hSw; (try dsimp only at hSw); go_simp; first | done | with_reducible rfl)
              simp only [Act.put, List.setIfInBounds_toArray, List.set_cons_zero, List.set_cons_succ]
              refine tkZ_ 1 (some 54) rfl rfl (v := ?a153) ?b153 ?c153
              case b153 => (intro W' hSw; (try dsimp only at hSw); go_simp; first | done | with_reducible rfl)
              simp only [Act.put, List.setIfInBounds_toArray, List.set_cons_zero, List.set_cons_succ]
              refine tkZ_ 2 (some 55) rfl rfl (v := ?a154) ?b154 ?c154
              case b154 => (intro W' hSw; (try dsimp only at hSw); go_simp; first | done | with_reducible rfl)
              simp only [Act.put, List.setIfInBounds_toArray, List.set_cons_zero, List.set_cons_succ]
              refine tkZ_ 3 (some 56) rfl rfl (v := ?a155) ?b155 ?c155
              case b155 => (intro W' hSw; (try dsimp only at hSw); go_simp; first | done | with_reducible rfl)
              simp only [Act.put, List.setIfInBounds_toArray, List.set_cons_zero, List.set_cons_succ]
              refine tkZ_ 4 (some 57) rfl rfl (v := ?a156) ?b156 ?c156
              case b156 => (intro W' hSw; (try dsimp only at hSw); go_simp; first | done | with_reducible rfl)
              simp only [Act.put, List.setIfInBounds_toArray, List.set_cons_zero, List.set_cons_succ]
              refine tkZ_ 5 (some 58) rfl rfl (v := ?a157) ?b157 ?c157
              case b157 => (intro W' hSw; (try dsimp only at hSw); go_simp; first | done | with_reducible rfl)
              simp only [Act.put, List.setIfInBounds_toArray, List.set_cons_zero, List.set_cons_succ]
              refine tkZ_ 6 (some 59) rfl rfl (v := ?a158) ?b158 ?c158
              case b158 => (intro W' hSw; (try dsimp only at hSw); go_simp; first | done | with_reducible rfl)
              simp only [Act.put, List.setIfInBounds_toArray, List.set_cons_zero, List.set_cons_succ]
              refine tkZ_ 7 (some 60) rfl rfl (v := ?a159) ?b159 ?c159
              case b159 => (intro W' hSw; (try dsimp only at hSw); go_simp; first | done | with_reducible rfl)
              simp only [Act.put, List.setIfInBounds_toArray, List.set_cons_zero, List.set_cons_succ]
              refine tkZ_ 8 (some 61) rfl rfl (v := ?a160) ?b160 ?c160
              case b160 => (intro W' hSw; (try dsimp only at hSw); go_simp; first | done | with_reducible rfl)
              simp only [Act.put, List.setIfInBounds_toArray, List.set_cons_zero, List.set_cons_succ]
              refine tkZ_ 9 (some 62) rfl rfl (v := ?a161) ?b161 ?c161
              case b161 => (intro W' hSw; (try dsimp only at hSw); go_simp; first | done | with_reducible rfl)
              simp only [Act.put, List.setIfInBounds_toArray, List.set_cons_zero, List.set_cons_succ]
              refine tkZ_ 10 (some 63) rfl rfl (v := ?a162) ?b162 ?c162
              case b162 => (intro W' hSw; (try dsimp only at hSw); go_simp; first | done | with_reducible rfl)
              simp only [Act.put, List.setIfInBounds_toArray, List.set_cons_zero, List.set_cons_succ]
              refine tkZ_ 11 (some 64) rfl rfl (v := ?a163) ?b163 ?c163
              case b163 => (intro W' hSw; (try dsimp only at hSw); go_simp; first | done | with_reducible rfl)
              simp only [Act.put, List.setIfInBounds_toArray, List.set_cons_zero, List.set_cons_succ]
              refine tkZ_ 12 (some 65) rfl rfl (v := ?a164) ?b164 ?c164
              case b164 => (intro W' hSw; (try dsimp only at hSw); go_simp; first | done | with_reducible rfl)
              simp only [Act.put, List.setIfInBounds_toArray, List.set_cons_zero, List.set_cons_succ]
              refine tkZ_ 13 (some 66) rfl rfl (v := ?a165) ?b165 ?c165
              case b165 => (intro W' hSw; (try dsimp only at hSw); go_simp; first | done | with_reducible rfl)
              simp only [Act.put, List.setIfInBounds_toArray, List.set_cons_zero, List.set_cons_succ]
              refine tkZ_ 14 (some 67) rfl rfl (v := ?a166) ?b166 ?c166
              case b166 => (intro W' hSw; (try dsimp only at hSw); go_simp; first | done | with_reducible rfl)
              simp only [Act.put, List.setIfInBounds_toArray, List.set_cons_zero, List.set_cons_succ]
              refine tkZ_ 15 (some 68) rfl rfl (v := ?a167) ?b167 ?c167
              case b167 => (intro W' hSw; (try dsimp only at hSw); go_simp; first | done | with_reducible rfl)
              simp only [Act.put, List.setIfInBounds_toArray, List.set_cons_zero, List.set_cons_succ]
              refine tkZ_ 16 (some 69) rfl rfl (v := ?a168) ?b168 ?c168
              case b168 => (intro W' hSw; (try dsimp only at hSw); go_simp; first | done | with_reducible rfl)
              simp only [Act.put, List.setIfInBounds_toArray, List.set_cons_zero, List.set_cons_succ]
              refine tkZ_ 17 (some 70) rfl rfl (v := ?a169) ?b169 ?c169
              case b169 => (intro W' hSw; (try dsimp only at hSw); go_simp; first | done | with_reducible rfl)
              simp only [Act.put, List.setIfInBounds_toArray, List.set_cons_zero, List.set_cons_succ]
              refine wpAnyH_ready (rs := [18]) (by kernel_rfl) (by simp) (AllReadyH.cons (at_dropN rfl) (fun KC hKC => ?_) AllReadyH.nil)
              go_simp
              refine HC.mono ?_
              rintro e w5 ⟨rfl, hb5⟩
              have hb0_5 := below_step hb0_4 hb5
              have hk5 := blk_below hk4 hb5
              refine hKC.out _ _ ⟨nd_cells hk5, el_cells hb0_5 HY.out⟩ (fun hHeld => ?_)
              clear hKC KC
              try simp only [Act.put, List.setIfInBounds_toArray, List.set_cons_zero, List.set_cons_succ]
              refine tkZ_ 19 (some 72) rfl rfl (v := ?a170) ?b170 ?c170
              case b170 => (intro W' hSw; (try dsimp only at hSw); go_simp; first | done | with_reducible rfl)
              simp only [Act.put, List.setIfInBounds_toArray, List.set_cons_zero, List.set_cons_succ]
              refine tkZ_ 20 (some 73) rfl rfl (v := ?a171) ?b171 ?c171
              case b171 => (intro W' hSw; (try dsimp only at hSw); go_simp; first | done | with_reducible rfl)
              simp only [Act.put, List.setIfInBounds_toArray, List.set_cons_zero, List.set_cons_succ]
              refine tkZ_ 21 (some 74) rfl rfl (v := ?a172) ?b172 ?c172
              case b172 => (intro W' hSw; (try dsimp only at hSw); go_simp; first | done | with_reducible rfl)
              simp only [Act.put, List.setIfInBounds_toArray, List.set_cons_zero, List.set_cons_succ]
              refine wpAnyH_done (by kernel_rfl) ?_ _
              have HV := Lib.hid (show vlR k x v = true by unfold vlR; rw [if_pos HG.out, hd, hob]; rfl)
              go_wp2_with fail
              have hk6 := blk_drewO hk5
              have hb0_6 := hb0_5.drew
              refine wp_region_held_drew (S := (fun W => (W.cell? ⟨b6, 0, none⟩ = some (.string x.f0) ∧ W.cell? ⟨b6, 1, none⟩ = some (.int .i64 x.f1) ∧ W.cell? ⟨b6, 2, none⟩ = some (.bool true) ∧ W.cell? ⟨b6, 3, none⟩ = some (.int .i64 x.f3) ∧ W.cell? ⟨b6, 4, none⟩ = some (.int .i64 x.f4) ∧ W.cell? ⟨b6, 5, none⟩ = some (.slice P x.f5.length q)) ∧ W.cell? (ad2.add (j * 4)) = some (.int .i64 v.f0.f0) ∧ W.cell? ⟨(ad2.add (j * 4)).block, (ad2.add (j * 4)).off + 1, none⟩ = some (.int .i64 v.f0.f1) ∧ W.cell? ⟨(ad2.add (j * 4)).block, (ad2.add (j * 4)).off + 2, none⟩ = some (.string v.f0.f2) ∧ W.cell? ⟨(ad2.add (j * 4)).block, (ad2.add (j * 4)).off + 3, none⟩ = some (.slice F v.f1.length fq))) (by kernel_rfl) ⟨nd_cells hk6, el_cells hb0_6 HY.out⟩ (fun hHeld => ?_)
              generalize w5.drew = w6d at *
              refine tkZ_ 0 (some 75) rfl rfl (v := ?a173) ?b173 ?c173
              case b173 => (intro W' hSw; (try dsimp only at hSw); go_simp; first | done | with_reducible rfl)
              simp only [Act.put, List.setIfInBounds_toArray, List.set_cons_zero, List.set_cons_succ]
              refine tkZ_ 1 (some 76) rfl rfl (v := ?a174) ?b174 ?c174
              case b174 => (intro W' hSw; (try dsimp only at hSw); go_simp; first | done | with_reducible rfl)
              simp only [Act.put, List.setIfInBounds_toArray, List.set_cons_zero, List.set_cons_succ]
              refine tkZ_ 2 (some 77) rfl rfl (v := ?a175) ?b175 ?c175
              case b175 => (intro W' hSw; (try dsimp only at hSw); go_simp; first | done | with_reducible rfl)
              simp only [Act.put, List.setIfInBounds_toArray, List.set_cons_zero, List.set_cons_succ]
              refine tkZ_ 3 (some 78) rfl rfl (v := ?a176) ?b176 ?c176
              case b176 => (intro W' hSw; (try dsimp only at hSw); go_simp; first | done | with_reducible rfl)
              simp only [Act.put, List.setIfInBounds_toArray, List.set_cons_zero, List.set_cons_succ]
              refine tkN_ 4 (some 79) rfl rfl (by kernel_rfl) (by kernel_rfl) (by kernel_rfl) (fun _ _ _ h => h) (by rfl) (by assumption) rfl ?tkr177_4
              simp only [Act.put, List.setIfInBounds_toArray, List.set_cons_zero, List.set_cons_succ]
              refine tkN_ 5 (some 80) rfl rfl (by kernel_rfl) (by kernel_rfl) (by kernel_rfl) (fun _ _ _ h => h) (by rfl) (by assumption) rfl ?tkr178_5
              simp only [Act.put, List.setIfInBounds_toArray, List.set_cons_zero, List.set_cons_succ]
              refine tkN_ 6 (some 81) rfl rfl (by kernel_rfl) (by kernel_rfl) (by kernel_rfl) (fun _ _ _ h => h) (by rfl) (by assumption) rfl ?tkr179_6
              simp only [Act.put, List.setIfInBounds_toArray, List.set_cons_zero, List.set_cons_succ]
              refine tkN_ 7 (some 82) rfl rfl (by kernel_rfl) (by kernel_rfl) (by kernel_rfl) (fun _ _ _ h => h) (by rfl) (by assumption) rfl ?tkr180_7
              simp only [Act.put, List.setIfInBounds_toArray, List.set_cons_zero, List.set_cons_succ]
              refine tkN_ 8 (some 83) rfl rfl (by kernel_rfl) (by kernel_rfl) (by kernel_rfl) (fun _ _ _ h => h) (by rfl) (by assumption) rfl ?tkr181_8
              simp only [Act.put, List.setIfInBounds_toArray, List.set_cons_zero, List.set_cons_succ]
              refine tkN_ 9 (some 84) rfl rfl (by kernel_rfl) (by kernel_rfl) (by kernel_rfl) (fun _ _ _ h => h) (by rfl) (by assumption) rfl ?tkr182_9
              simp only [Act.put, List.setIfInBounds_toArray, List.set_cons_zero, List.set_cons_succ]
              refine tkN_ 10 (some 85) rfl rfl (by kernel_rfl) (by kernel_rfl) (by kernel_rfl) (fun _ _ _ h => h) (by rfl) (by assumption) rfl ?tkr183_10
              simp only [Act.put, List.setIfInBounds_toArray, List.set_cons_zero, List.set_cons_succ]
              refine tkN_ 11 (some 86) rfl rfl (by kernel_rfl) (by kernel_rfl) (by kernel_rfl) (fun _ _ _ h => h) (by rfl) (by assumption) rfl ?tkr184_11
              simp only [Act.put, List.setIfInBounds_toArray, List.set_cons_zero, List.set_cons_succ]
              refine tkN_ 12 (some 87) rfl rfl (by kernel_rfl) (by kernel_rfl) (by kernel_rfl) (fun _ _ _ h => h) (by rfl) (by assumption) rfl ?tkr185_12
              simp only [Act.put, List.setIfInBounds_toArray, List.set_cons_zero, List.set_cons_succ]
              refine tkN_ 13 (some 88) rfl rfl (by kernel_rfl) (by kernel_rfl) (by kernel_rfl) (fun _ _ _ h => h) (by rfl) (by assumption) rfl ?tkr186_13
              simp only [Act.put, List.setIfInBounds_toArray, List.set_cons_zero, List.set_cons_succ]
              refine tkN_ 14 (some 89) rfl rfl (by kernel_rfl) (by kernel_rfl) (by kernel_rfl) (fun _ _ _ h => h) (by rfl) (by assumption) rfl ?tkr187_14
              simp only [Act.put, List.setIfInBounds_toArray, List.set_cons_zero, List.set_cons_succ]
              refine tkN_ 15 (some 90) rfl rfl (by kernel_rfl) (by kernel_rfl) (by kernel_rfl) (fun _ _ _ h => h) (by rfl) (by assumption) rfl ?tkr188_15
              simp only [Act.put, List.setIfInBounds_toArray, List.set_cons_zero, List.set_cons_succ]
              refine tkN_ 16 (some 91) rfl rfl (by kernel_rfl) (by kernel_rfl) (by kernel_rfl) (fun _ _ _ h => h) (by rfl) (by assumption) rfl ?tkr189_16
              simp only [Act.put, List.setIfInBounds_toArray, List.set_cons_zero, List.set_cons_succ]
              refine tkN_ 17 (some 92) rfl rfl (by kernel_rfl) (by kernel_rfl) (by kernel_rfl) (fun _ _ _ h => h) (by rfl) (by assumption) rfl ?tkr190_17
              simp only [Act.put, List.setIfInBounds_toArray, List.set_cons_zero, List.set_cons_succ]
              refine tkN_ 18 (some 93) rfl rfl (by kernel_rfl) (by kernel_rfl) (by kernel_rfl) (fun _ _ _ h => h) (by rfl) (by assumption) rfl ?tkr191_18
              simp only [Act.put, List.setIfInBounds_toArray, List.set_cons_zero, List.set_cons_succ]
              refine tkN_ 19 (some 94) rfl rfl (by kernel_rfl) (by kernel_rfl) (by kernel_rfl) (fun _ _ _ h => h) (by rfl) (by assumption) rfl ?tkr192_19
              simp only [Act.put, List.setIfInBounds_toArray, List.set_cons_zero, List.set_cons_succ]
              refine tkN_ 20 (some 95) rfl rfl (by kernel_rfl) (by kernel_rfl) (by kernel_rfl) (fun _ _ _ h => h) (by rfl) (by assumption) rfl ?tkr193_20
              simp only [Act.put, List.setIfInBounds_toArray, List.set_cons_zero, List.set_cons_succ]
              refine tkN_ 21 (some 96) rfl rfl (by kernel_rfl) (by kernel_rfl) (by kernel_rfl) (fun _ _ _ h => h) (by rfl) (by assumption) rfl ?tkr194_21
              simp only [Act.put, List.setIfInBounds_toArray, List.set_cons_zero, List.set_cons_succ]
              refine tkN_ 22 (some 97) rfl rfl (by kernel_rfl) (by kernel_rfl) (by kernel_rfl) (fun _ _ _ h => h) (by rfl) (by assumption) rfl ?tkr195_22
              simp only [Act.put, List.setIfInBounds_toArray, List.set_cons_zero, List.set_cons_succ]
              refine tkN_ 23 (some 98) rfl rfl (by kernel_rfl) (by kernel_rfl) (by kernel_rfl) (fun _ _ _ h => h) (by rfl) (by assumption) rfl ?tkr196_23
              simp only [Act.put, List.setIfInBounds_toArray, List.set_cons_zero, List.set_cons_succ]
              refine tkN_ 24 (some 99) rfl rfl (by kernel_rfl) (by kernel_rfl) (by kernel_rfl) (fun _ _ _ h => h) (by rfl) (by assumption) rfl ?tkr197_24
              simp only [Act.put, List.setIfInBounds_toArray, List.set_cons_zero, List.set_cons_succ]
              refine tkZ_ 25 (some 100) rfl rfl (v := ?a198) ?b198 ?c198
              case b198 => (intro W' hSw; (try dsimp only at hSw); go_simp; first | done | with_reducible rfl)
              simp only [Act.put, List.setIfInBounds_toArray, List.set_cons_zero, List.set_cons_succ]
              refine wpAnyH_done (by kernel_rfl) ?_ _
              go_wp2_with fail
              first | exact ⟨⟨j + 1, by omega, by go_num, HNXT.out HV.out, HON.out, below_step hB5 hb0_6, hk6⟩, by simp [intOf]; omega⟩ | (go_roundw; (case rel => exact ⟨j + 1, by omega, by go_num, HNXT.out HV.out, HON.out, below_step hB5 hb0_6, hk6⟩); (case measure => (simp [intOf]; omega)))
theorem rof_all (k : Nat) : ∀ n, ROfAt k n
  | 0 => fun l0 hn => by
    exfalso
    cases l0 <;> simp at hn
  | n + 1 => rof_step (rof_all k n)
theorem marquetryref17_Of.calls (k : Nat) (A0 : Option Addr) (c0 : Nat) (l0 : List (S64)) (A1 : Option Addr) (c1 : Nat) (l1 : List (S70)) (r : Bool) (w : World) (hr0 : Kd.C k64 w A0 l0.length l0) (hc0 : l0.length ≤ c0) (hr1 : Kd.C k70 w A1 l1.length l1) (hc1 : l1.length ≤ c1) (h : marquetryref17_Of.f k l0 l1 = some r) :
    Calls Tryd.prog 28 #[.slice A0 l0.length c0, .slice A1 l1.length c1] w fun e w' => e = .returned (.bool r) ∧ Below w.heap.size w w' := by
  unfold marquetryref17_Of.f at h
  split at h
  case isFalse => cases h
  case isTrue hok =>
  obtain rfl := Option.some.inj h
  exact rof_all k _ l0 (Nat.le_refl _) l1 hok A0 c0 A1 c1 w hr0 hr1


end Go.Proofs.YtnbmgljcnbhinaaDoor.H
end
