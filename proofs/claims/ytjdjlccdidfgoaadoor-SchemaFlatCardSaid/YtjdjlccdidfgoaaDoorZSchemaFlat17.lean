/- Texts of the claim, packed: H24, H25. -/
import Derived.BigRegion
import Derived.Deep.Cut
import Derived.Deep.CutBlock
import Derived.Deep.DeepCutAuto
import Derived.Deep.RegionHeld3
import Derived.Deep.RegionWith
import Derived.Lib.Hide
import Derived.Test.YtjdjlccdidfgoaaDoorZSchemaFlat6
import Derived.Test.YtjdjlccdidfgoaaDoorZSchemaFlat16
section
-- Laid by this session's hprint.py, out of the kit's print.py and texts of the session. Not trusted: Lean checks it.
namespace Go.Proofs.YtjdjlccdidfgoaaDoor.H
open Go.RowKit Go.Proofs.YtjdjlccdidfgoaaDoorW.PrintWords Go.Proofs.YtjdjlccdidfgoaaDoorW.PrintLast Go.Proofs.YtjdjlccdidfgoaaDoorW.PrintMore
attribute [local go_sem] max2_int min2_int max_two min_two max_three min_three max_four min_four   -- for this text's walks alone
set_option linter.unusedVariables false
set_option linter.unusedSimpArgs false

-- OVPART Derived.Lib.Hide Derived.Deep.RegionHeld3 Derived.BigRegion Derived.Deep.RegionWith Derived.Deep.Cut Derived.Deep.CutBlock Derived.Deep.DeepCutAuto
/-! ### marquetryref16_same: function 33 -/
theorem at_dropN {ops : Array Oper} {i : Nat} {oi : Oper} {rest : List Oper} (h : ops.toList.drop i = oi :: rest) : ops[i]? = some oi := by
  rw [← Array.getElem?_toList, ← List.head?_drop, h]
  rfl
theorem tkZ_ {P : Program} {ops : Array Oper} {Q : Exit → Act → World → Prop} {S : World → Prop} {md : Region.Mode} (i : Nat) (N : Option Tmp) {oi : Oper} {rest : List Oper} {v : Value} {fuel : Nat} {listed : Array Bool} {a : Act} {w : World} (hl : ops.toList.drop i = oi :: rest) (hN : oi.dst = N)
    (hv : ∀ w, S w → (execOp a.eval oi).run P w = .ok (.value v) w) (h : wpAnyH P md ops Q S fuel (listed.setIfInBounds i true) (a.put N v) w)
    (hs : Region.noSelect ops = true := by kernel_rfl) (hf : Region.free md ops listed i = true := by kernel_rfl) (hr : (Region.ready md ops listed).contains i = true := by kernel_rfl)
    (hw : Region.wanted oi (yielded ops a.tmps) = true := by rfl) (hS : S w := by assumption) (hQ : ∀ c a w, Q (.panic c) (a.put N v) w → Q (.panic c) a w := by exact fun _ _ _ h => h) : wpAnyH P md ops Q S (fuel + 1) listed a w := by
  subst hN
  exact wpAnyH_take (at_dropN hl) hs hf hr hQ (.inl ⟨hw, hv⟩) hS h
theorem put6 {W : World} {b : Nat} {T : TypeId} {a0 a1 a2 a3 a4 a5 : Value} (h : W.heap[b]? = some (.cells #[a0, a1, a2, a3, a4, a5] T (0, 0))) (x y z u v s : Value) : ((((((W.setCell ⟨b, 0, none⟩ x).setCell ⟨b, 1, none⟩ y).setCell ⟨b, 2, none⟩ z).setCell ⟨b, 3, none⟩ u).setCell ⟨b, 4, none⟩ v).setCell ⟨b, 5, none⟩ s).heap[b]? = some (.cells #[x, y, z, u, v, s] T (0, 0)) := blk_set (blk_set (blk_set (blk_set (blk_set (blk_set h 0 x) 1 y) 2 z) 3 u) 4 v) 5 s
theorem far6 {W : World} {C C' : Nat} {cs : Array Value} {t : TypeId} (h : W.heap[C']? = some (.cells cs t (0, 0))) (hne : C' ≠ C) (x y z u v s : Value) : ((((((W.setCell ⟨C, 0, none⟩ x).setCell ⟨C, 1, none⟩ y).setCell ⟨C, 2, none⟩ z).setCell ⟨C, 3, none⟩ u).setCell ⟨C, 4, none⟩ v).setCell ⟨C, 5, none⟩ s).heap[C']? = some (.cells cs t (0, 0)) :=
  blk_far (blk_far (blk_far (blk_far (blk_far (blk_far h (p := ⟨C, 0, none⟩) hne x) (p := ⟨C, 1, none⟩) hne y) (p := ⟨C, 2, none⟩) hne z) (p := ⟨C, 3, none⟩) hne u) (p := ⟨C, 4, none⟩) hne v) (p := ⟨C, 5, none⟩) hne s
theorem below6 {n : Nat} {w W : World} {B : Nat} (h : Below n w W) (hB : n ≤ B) (x y z u v s : Value) : Below n w ((((((W.setCell ⟨B, 0, none⟩ x).setCell ⟨B, 1, none⟩ y).setCell ⟨B, 2, none⟩ z).setCell ⟨B, 3, none⟩ u).setCell ⟨B, 4, none⟩ v).setCell ⟨B, 5, none⟩ s) :=
  (((((h.setCell (p := ⟨B, 0, none⟩) hB x).setCell (p := ⟨B, 1, none⟩) hB y).setCell (p := ⟨B, 2, none⟩) hB z).setCell (p := ⟨B, 3, none⟩) hB u).setCell (p := ⟨B, 4, none⟩) hB v).setCell (p := ⟨B, 5, none⟩) hB s
theorem cells6 {W : World} {C : Nat} {t : TypeId} {c0 c1 c2 c3 c4 c5 : Value} (h : W.heap[C]? = some (.cells #[c0, c1, c2, c3, c4, c5] t (0, 0))) : (W.cell? ⟨C, 0, none⟩ = some c0 ∧ W.cell? ⟨C, 1, none⟩ = some c1 ∧ W.cell? ⟨C, 2, none⟩ = some c2 ∧ W.cell? ⟨C, 3, none⟩ = some c3 ∧ W.cell? ⟨C, 4, none⟩ = some c4 ∧ W.cell? ⟨C, 5, none⟩ = some c5) ∧ (W.frozen? ⟨C, 0, none⟩ = false ∧ W.frozen? ⟨C, 1, none⟩ = false ∧ W.frozen? ⟨C, 2, none⟩ = false ∧ W.frozen? ⟨C, 3, none⟩ = false ∧ W.frozen? ⟨C, 4, none⟩ = false ∧ W.frozen? ⟨C, 5, none⟩ = false) :=
  ⟨⟨blk_cell h 0, blk_cell h 1, blk_cell h 2, blk_cell h 3, blk_cell h 4, blk_cell h 5⟩, blk_frozen h 0, blk_frozen h 1, blk_frozen h 2, blk_frozen h 3, blk_frozen h 4, blk_frozen h 5⟩
theorem sameNr_at (l m : List S62) (k : Nat) (hk : k < l.length) (hm : k < m.length) : sameN (l.drop k) (m.drop k) = (sameHd l[k] m[k] && sameN l[k].f5 m[k].f5 && sameN (l.drop (k + 1)) (m.drop (k + 1))) := by
  rw [sameN_eq, eqL_at _ l m k hk hm, ← sameN_eq]
def marquetryref16_same.f (l0 l1 : List S62) : Option Bool := some (sameN l0 l1)
/-- What the document's 'same' does at lists of nodes that are no greater. -/
def RefNAt (n : Nat) : Prop := ∀ (l0 l1 : List S62), SizeOf.sizeOf l0 ≤ n → ∀ (A0 : Option Addr) (c0 : Nat) (A1 : Option Addr) (c1 : Nat) (w : World), Kd.C k62 w A0 l0.length l0 → Kd.C k62 w A1 l1.length l1 →
  Calls Tryd.prog 33 #[.slice A0 l0.length c0, .slice A1 l1.length c1] w fun e w' => e = .returned (.bool (sameN l0 l1)) ∧ Below w.heap.size w w'
set_option maxHeartbeats 8000000 in
set_option maxRecDepth 100000 in
theorem refN_step {n : Nat} (ih : RefNAt n) : RefNAt (n + 1) := by
  intro l0 l1 hn A0 c0 A1 c1 w hr0 hr1
  by_cases hl : l0.length = l1.length
  · have c1b0 : ((l0.length : Int) != (l1.length : Int)) = false := bne_eq_false_iff_eq.mpr (by omega)
    have hmax := Kd.C_max hr0
    have HL := Aside0.mk hl
    have HN := Aside0.mk hn
    clear hl hn
    go_enter Tryd.func33, Tryd.ntmps33
    go_wp2
    go_loopw [5] (fun v wr => ∃ k : Nat, k ≤ l0.length ∧ v = .int .i64 k ∧ sameN (l0.drop k) (l1.drop k) = sameN l0 l1 ∧ Below w.heap.size w wr) (fun v _ => l0.length - (intOf v).toNat)
    case atStart => exact ⟨0, Nat.zero_le _, rfl, rfl, Below.refl _ _⟩
    case round =>
      obtain ⟨k, hk, rfl, he, hB⟩ := hrel
      by_cases hkn : k < l0.length
      · have hk1 : k < l1.length := HL.out ▸ hkn
        have HR := Aside0.mk (sameNr_at l0 l1 k hkn hk1)
        have hwk : IntKind.i64.wrap ((k : Int) + 1) = (k : Int) + 1 := by rw [IntKind.wrap_i64]; omega
        have HSZ := Aside0.mk (show SizeOf.sizeOf l0[k].f5 ≤ n by have := szn_mem (List.getElem_mem hkn); have := szn_node l0[k]; have := HN.out; omega)
        obtain ⟨ad0, P0, q0, e0, hx0, hx1, hx2, hx3, hx4, hx5, ml0, mc0⟩ := at_T62 (Kd.C_below hr0 hB) (k : Int) (by omega) (by omega)
        obtain ⟨ad1, P1, q1, e1, hy0, hy1, hy2, hy3, hy4, hy5, ml1, mc1⟩ := at_T62 (Kd.C_below hr1 hB) (k : Int) (by omega) (by omega)
        cases e0
        cases e1
        have ex : rd_T62 l0 (k : Int) = l0[k] := by unfold rd_T62; simp [List.getD, hkn]
        have ey : rd_T62 l1 (k : Int) = l1[k] := by unfold rd_T62; simp [List.getD, hk1]
        simp only [Int.toNat_natCast, ex] at hx0 hx1 hx2 hx3 hx4 hx5 ml0 mc0
        simp only [Int.toNat_natCast, ey] at hy0 hy1 hy2 hy3 hy4 hy5 ml1 mc1
        clear ex ey
        generalize l0[k] = x at *
        generalize l1[k] = y at *
        have hS : (fun W => (W.cell? (ad0.add (k * 6)) = some (.string x.f0) ∧ W.cell? ⟨(ad0.add (k * 6)).block, (ad0.add (k * 6)).off + 1, none⟩ = some (.int .i64 x.f1) ∧ W.cell? ⟨(ad0.add (k * 6)).block, (ad0.add (k * 6)).off + 2, none⟩ = some (.bool x.f2) ∧ W.cell? ⟨(ad0.add (k * 6)).block, (ad0.add (k * 6)).off + 3, none⟩ = some (.int .i64 x.f3) ∧ W.cell? ⟨(ad0.add (k * 6)).block, (ad0.add (k * 6)).off + 4, none⟩ = some (.int .i64 x.f4) ∧ W.cell? ⟨(ad0.add (k * 6)).block, (ad0.add (k * 6)).off + 5, none⟩ = some (.slice P0 x.f5.length q0)) ∧ (W.cell? (ad1.add (k * 6)) = some (.string y.f0) ∧ W.cell? ⟨(ad1.add (k * 6)).block, (ad1.add (k * 6)).off + 1, none⟩ = some (.int .i64 y.f1) ∧ W.cell? ⟨(ad1.add (k * 6)).block, (ad1.add (k * 6)).off + 2, none⟩ = some (.bool y.f2) ∧ W.cell? ⟨(ad1.add (k * 6)).block, (ad1.add (k * 6)).off + 3, none⟩ = some (.int .i64 y.f3) ∧ W.cell? ⟨(ad1.add (k * 6)).block, (ad1.add (k * 6)).off + 4, none⟩ = some (.int .i64 y.f4) ∧ W.cell? ⟨(ad1.add (k * 6)).block, (ad1.add (k * 6)).off + 5, none⟩ = some (.slice P1 y.f5.length q1))) wr := ⟨⟨hx0, hx1, hx2, hx3, hx4, hx5⟩, hy0, hy1, hy2, hy3, hy4, hy5⟩
        have HSB := Lib.hid (fun (W : World) (hb : Below wr.heap.size wr W) => (show (fun W => (W.cell? (ad0.add (k * 6)) = some (.string x.f0) ∧ W.cell? ⟨(ad0.add (k * 6)).block, (ad0.add (k * 6)).off + 1, none⟩ = some (.int .i64 x.f1) ∧ W.cell? ⟨(ad0.add (k * 6)).block, (ad0.add (k * 6)).off + 2, none⟩ = some (.bool x.f2) ∧ W.cell? ⟨(ad0.add (k * 6)).block, (ad0.add (k * 6)).off + 3, none⟩ = some (.int .i64 x.f3) ∧ W.cell? ⟨(ad0.add (k * 6)).block, (ad0.add (k * 6)).off + 4, none⟩ = some (.int .i64 x.f4) ∧ W.cell? ⟨(ad0.add (k * 6)).block, (ad0.add (k * 6)).off + 5, none⟩ = some (.slice P0 x.f5.length q0)) ∧ (W.cell? (ad1.add (k * 6)) = some (.string y.f0) ∧ W.cell? ⟨(ad1.add (k * 6)).block, (ad1.add (k * 6)).off + 1, none⟩ = some (.int .i64 y.f1) ∧ W.cell? ⟨(ad1.add (k * 6)).block, (ad1.add (k * 6)).off + 2, none⟩ = some (.bool y.f2) ∧ W.cell? ⟨(ad1.add (k * 6)).block, (ad1.add (k * 6)).off + 3, none⟩ = some (.int .i64 y.f3) ∧ W.cell? ⟨(ad1.add (k * 6)).block, (ad1.add (k * 6)).off + 4, none⟩ = some (.int .i64 y.f4) ∧ W.cell? ⟨(ad1.add (k * 6)).block, (ad1.add (k * 6)).off + 5, none⟩ = some (.slice P1 y.f5.length q1))) W from ⟨⟨(hb.cell (World.block_lt_of_cell? wr _ hx0)).trans hx0, (hb.cell (World.block_lt_of_cell? wr _ hx1)).trans hx1, (hb.cell (World.block_lt_of_cell? wr _ hx2)).trans hx2, (hb.cell (World.block_lt_of_cell? wr _ hx3)).trans hx3, (hb.cell (World.block_lt_of_cell? wr _ hx4)).trans hx4, (hb.cell (World.block_lt_of_cell? wr _ hx5)).trans hx5⟩, (hb.cell (World.block_lt_of_cell? wr _ hy0)).trans hy0, (hb.cell (World.block_lt_of_cell? wr _ hy1)).trans hy1, (hb.cell (World.block_lt_of_cell? wr _ hy2)).trans hy2, (hb.cell (World.block_lt_of_cell? wr _ hy3)).trans hy3, (hb.cell (World.block_lt_of_cell? wr _ hy4)).trans hy4, (hb.cell (World.block_lt_of_cell? wr _ hy5)).trans hy5⟩))
        go_wp2
        go_cut [6, 7] (fun v6 v7 wc => ∃ B6 B7, v6 = .pointer (some ⟨B6, 0, none⟩) ∧ v7 = .pointer (some ⟨B7, 0, none⟩) ∧ wc.heap[B6]? = some (.cells #[.string x.f0, .int .i64 x.f1, .bool x.f2, .int .i64 x.f3, .int .i64 x.f4, .slice P0 x.f5.length q0] 62 (0, 0)) ∧ wc.heap[B7]? = some (.cells #[.string y.f0, .int .i64 y.f1, .bool y.f2, .int .i64 y.f3, .int .i64 y.f4, .slice P1 y.f5.length q1] 62 (0, 0)) ∧ Below wr.heap.size wr wc)
        case first =>
          refine wp_region_held_drew (S := (fun W => (W.cell? (ad0.add (k * 6)) = some (.string x.f0) ∧ W.cell? ⟨(ad0.add (k * 6)).block, (ad0.add (k * 6)).off + 1, none⟩ = some (.int .i64 x.f1) ∧ W.cell? ⟨(ad0.add (k * 6)).block, (ad0.add (k * 6)).off + 2, none⟩ = some (.bool x.f2) ∧ W.cell? ⟨(ad0.add (k * 6)).block, (ad0.add (k * 6)).off + 3, none⟩ = some (.int .i64 x.f3) ∧ W.cell? ⟨(ad0.add (k * 6)).block, (ad0.add (k * 6)).off + 4, none⟩ = some (.int .i64 x.f4) ∧ W.cell? ⟨(ad0.add (k * 6)).block, (ad0.add (k * 6)).off + 5, none⟩ = some (.slice P0 x.f5.length q0)) ∧ (W.cell? (ad1.add (k * 6)) = some (.string y.f0) ∧ W.cell? ⟨(ad1.add (k * 6)).block, (ad1.add (k * 6)).off + 1, none⟩ = some (.int .i64 y.f1) ∧ W.cell? ⟨(ad1.add (k * 6)).block, (ad1.add (k * 6)).off + 2, none⟩ = some (.bool y.f2) ∧ W.cell? ⟨(ad1.add (k * 6)).block, (ad1.add (k * 6)).off + 3, none⟩ = some (.int .i64 y.f3) ∧ W.cell? ⟨(ad1.add (k * 6)).block, (ad1.add (k * 6)).off + 4, none⟩ = some (.int .i64 y.f4) ∧ W.cell? ⟨(ad1.add (k * 6)).block, (ad1.add (k * 6)).off + 5, none⟩ = some (.slice P1 y.f5.length q1)))) (by kernel_rfl) hS (fun hHeld => ?_)
          generalize hWd : wr.drew = wd at *
          have hBd : Below wr.heap.size wr wd := by rw [← hWd]; exact (Below.refl _ _).drew
          clear hWd
          refine tkZ_ 0 (some 19) rfl rfl (v := ?tkv0) ?tky0 ?tkr0
          case tky0 =>
            rintro W' ⟨⟨s0, s1, s2, s3, s4, s5⟩, z0, z1, z2, z3, z4, z5⟩
            go_simp
            first | done | with_reducible rfl
          simp only [Act.put, List.setIfInBounds_toArray, List.set_cons_zero, List.set_cons_succ]
          refine tkZ_ 1 (some 20) rfl rfl (v := ?tkv1) ?tky1 ?tkr1
          case tky1 =>
            rintro W' ⟨⟨s0, s1, s2, s3, s4, s5⟩, z0, z1, z2, z3, z4, z5⟩
            go_simp
            first | done | with_reducible rfl
          simp only [Act.put, List.setIfInBounds_toArray, List.set_cons_zero, List.set_cons_succ]
          refine tkZ_ 2 (some 21) rfl rfl (v := ?tkv2) ?tky2 ?tkr2
          case tky2 =>
            rintro W' ⟨⟨s0, s1, s2, s3, s4, s5⟩, z0, z1, z2, z3, z4, z5⟩
            go_simp
            first | done | with_reducible rfl
          simp only [Act.put, List.setIfInBounds_toArray, List.set_cons_zero, List.set_cons_succ]
          refine tkZ_ 4 (some 23) rfl rfl (v := ?tkv4) ?tky4 ?tkr4
          case tky4 =>
            rintro W' ⟨⟨s0, s1, s2, s3, s4, s5⟩, z0, z1, z2, z3, z4, z5⟩
            go_simp
            first | done | with_reducible rfl
          simp only [Act.put, List.setIfInBounds_toArray, List.set_cons_zero, List.set_cons_succ]
          refine tkZ_ 5 (some 24) rfl rfl (v := ?tkv5) ?tky5 ?tkr5
          case tky5 =>
            rintro W' ⟨⟨s0, s1, s2, s3, s4, s5⟩, z0, z1, z2, z3, z4, z5⟩
            go_simp
            first | done | with_reducible rfl
          simp only [Act.put, List.setIfInBounds_toArray, List.set_cons_zero, List.set_cons_succ]
          refine tkZ_ 6 (some 25) rfl rfl (v := ?tkv6) ?tky6 ?tkr6
          case tky6 =>
            rintro W' ⟨⟨s0, s1, s2, s3, s4, s5⟩, z0, z1, z2, z3, z4, z5⟩
            go_simp
            first | done | with_reducible rfl
          simp only [Act.put, List.setIfInBounds_toArray, List.set_cons_zero, List.set_cons_succ]
          refine tkZ_ 3 (some 22) rfl rfl (v := ?tkv3) ?tky3 ?tkr3
          case tky3 =>
            rintro W' ⟨⟨s0, s1, s2, s3, s4, s5⟩, z0, z1, z2, z3, z4, z5⟩
            go_simp
            first | done | with_reducible rfl
          simp only [Act.put, List.setIfInBounds_toArray, List.set_cons_zero, List.set_cons_succ]
          refine tkZ_ 7 (some 26) rfl rfl (v := ?tkv7) ?tky7 ?tkr7
          case tky7 =>
            rintro W' ⟨⟨s0, s1, s2, s3, s4, s5⟩, z0, z1, z2, z3, z4, z5⟩
            go_simp
            first | done | with_reducible rfl
          simp only [Act.put, List.setIfInBounds_toArray, List.set_cons_zero, List.set_cons_succ]
          refine wpAnyH_ready (rs := [8, 9]) (by kernel_rfl) (by simp) ?_
          refine AllReadyH.cons (at_dropN rfl) (fun KC hKC => ?_) ?_
          · go_simp
            have hb1 := below_alloc hBd (.cells #[.string ⟨#[]⟩, .int .i64 0, .bool false, .int .i64 0, .int .i64 0, .slice none 0 0] 62)
            have k6 := blk_new wd (.cells #[.string ⟨#[]⟩, .int .i64 0, .bool false, .int .i64 0, .int .i64 0, .slice none 0 0] 62)
            have g6 : wr.heap.size ≤ wd.heap.size := hBd.size
            refine hKC.out _ _ (HSB.out _ hb1) (fun hHeld => ?_)
            clear hKC KC
            try simp only [Act.put, List.setIfInBounds_toArray, List.set_cons_zero, List.set_cons_succ]
            generalize hw1 : World.alloc wd (.cells #[.string ⟨#[]⟩, .int .i64 0, .bool false, .int .i64 0, .int .i64 0, .slice none 0 0] 62) = w1 at *
            generalize hB1 : wd.heap.size = B6 at *
            clear hw1 hB1
            refine wpAnyH_ready (rs := [9]) (by kernel_rfl) (by simp) ?_
            refine AllReadyH.cons (at_dropN rfl) (fun KC hKC => ?_) AllReadyH.nil
            go_simp
            have hb2 := below_alloc hb1 (.cells #[.string ⟨#[]⟩, .int .i64 0, .bool false, .int .i64 0, .int .i64 0, .slice none 0 0] 62)
            have k7 := blk_new w1 (.cells #[.string ⟨#[]⟩, .int .i64 0, .bool false, .int .i64 0, .int .i64 0, .slice none 0 0] 62)
            have j6 := blk_alloc k6 (.cells #[.string ⟨#[]⟩, .int .i64 0, .bool false, .int .i64 0, .int .i64 0, .slice none 0 0] 62)
            have ne6 : B6 ≠ w1.heap.size := Nat.ne_of_lt (blk_lt k6)
            have g7 : wr.heap.size ≤ w1.heap.size := hb1.size
            refine hKC.out _ _ (HSB.out _ hb2) (fun hHeld => ?_)
            clear hKC KC k6
            try simp only [Act.put, List.setIfInBounds_toArray, List.set_cons_zero, List.set_cons_succ]
            generalize hw2 : World.alloc w1 (.cells #[.string ⟨#[]⟩, .int .i64 0, .bool false, .int .i64 0, .int .i64 0, .slice none 0 0] 62) = w2 at *
            generalize hB2 : w1.heap.size = B7 at *
            clear hw2 hB2
            refine wpAnyH_ready (rs := [10]) (by kernel_rfl) (by simp) (AllReadyH.cons (at_dropN rfl) (fun KC hKC => ?_) AllReadyH.nil)
            obtain ⟨⟨c0, c1, c2, c3, c4, c5⟩, f0, f1, f2, f3, f4, f5⟩ := cells6 j6
            go_simp
            have hb3 := below6 hb2 g6 (.string x.f0) (.int .i64 x.f1) (.bool x.f2) (.int .i64 x.f3) (.int .i64 x.f4) (.slice P0 x.f5.length q0)
            have m6 := put6 j6 (.string x.f0) (.int .i64 x.f1) (.bool x.f2) (.int .i64 x.f3) (.int .i64 x.f4) (.slice P0 x.f5.length q0)
            have m7 := far6 k7 (Ne.symm (ne6)) (.string x.f0) (.int .i64 x.f1) (.bool x.f2) (.int .i64 x.f3) (.int .i64 x.f4) (.slice P0 x.f5.length q0)
            refine hKC.out _ _ (HSB.out _ hb3) (fun hHeld => ?_)
            clear hKC KC c0 c1 c2 c3 c4 c5 f0 f1 f2 f3 f4 f5 j6 k7
            try simp only [Act.put, List.setIfInBounds_toArray, List.set_cons_zero, List.set_cons_succ]
            generalize hw3 : (World.setCell (World.setCell (World.setCell (World.setCell (World.setCell (World.setCell w2 ⟨B6, 0, none⟩ (.string x.f0)) ⟨B6, 1, none⟩ (.int .i64 x.f1)) ⟨B6, 2, none⟩ (.bool x.f2)) ⟨B6, 3, none⟩ (.int .i64 x.f3)) ⟨B6, 4, none⟩ (.int .i64 x.f4)) ⟨B6, 5, none⟩ (.slice P0 x.f5.length q0)) = w3 at *
            clear hw3
            refine wpAnyH_ready (rs := [11]) (by kernel_rfl) (by simp) (AllReadyH.cons (at_dropN rfl) (fun KC hKC => ?_) AllReadyH.nil)
            obtain ⟨⟨c0, c1, c2, c3, c4, c5⟩, f0, f1, f2, f3, f4, f5⟩ := cells6 m7
            go_simp
            have hb4 := below6 hb3 g7 (.string y.f0) (.int .i64 y.f1) (.bool y.f2) (.int .i64 y.f3) (.int .i64 y.f4) (.slice P1 y.f5.length q1)
            have n7 := put6 m7 (.string y.f0) (.int .i64 y.f1) (.bool y.f2) (.int .i64 y.f3) (.int .i64 y.f4) (.slice P1 y.f5.length q1)
            have n6 := far6 m6 (ne6) (.string y.f0) (.int .i64 y.f1) (.bool y.f2) (.int .i64 y.f3) (.int .i64 y.f4) (.slice P1 y.f5.length q1)
            refine hKC.out _ _ (HSB.out _ hb4) (fun hHeld => ?_)
            clear hKC KC c0 c1 c2 c3 c4 c5 f0 f1 f2 f3 f4 f5 m6 m7
            try simp only [Act.put, List.setIfInBounds_toArray, List.set_cons_zero, List.set_cons_succ]
            generalize hw4 : (World.setCell (World.setCell (World.setCell (World.setCell (World.setCell (World.setCell w3 ⟨B7, 0, none⟩ (.string y.f0)) ⟨B7, 1, none⟩ (.int .i64 y.f1)) ⟨B7, 2, none⟩ (.bool y.f2)) ⟨B7, 3, none⟩ (.int .i64 y.f3)) ⟨B7, 4, none⟩ (.int .i64 y.f4)) ⟨B7, 5, none⟩ (.slice P1 y.f5.length q1)) = w4 at *
            clear hw4
            refine wpAnyH_done (by kernel_rfl) ?_ _
            go_wp2_with fail
            go_meet
            exact ⟨B6, B7, rfl, rfl, n6, n7, hb4⟩
          refine AllReadyH.cons (at_dropN rfl) (fun KC hKC => ?_) ?_
          · go_simp
            have hb1 := below_alloc hBd (.cells #[.string ⟨#[]⟩, .int .i64 0, .bool false, .int .i64 0, .int .i64 0, .slice none 0 0] 62)
            have k7 := blk_new wd (.cells #[.string ⟨#[]⟩, .int .i64 0, .bool false, .int .i64 0, .int .i64 0, .slice none 0 0] 62)
            have g7 : wr.heap.size ≤ wd.heap.size := hBd.size
            refine hKC.out _ _ (HSB.out _ hb1) (fun hHeld => ?_)
            clear hKC KC
            try simp only [Act.put, List.setIfInBounds_toArray, List.set_cons_zero, List.set_cons_succ]
            generalize hw1 : World.alloc wd (.cells #[.string ⟨#[]⟩, .int .i64 0, .bool false, .int .i64 0, .int .i64 0, .slice none 0 0] 62) = w1 at *
            generalize hB1 : wd.heap.size = B7 at *
            clear hw1 hB1
            refine wpAnyH_ready (rs := [8]) (by kernel_rfl) (by simp) ?_
            refine AllReadyH.cons (at_dropN rfl) (fun KC hKC => ?_) AllReadyH.nil
            go_simp
            have hb2 := below_alloc hb1 (.cells #[.string ⟨#[]⟩, .int .i64 0, .bool false, .int .i64 0, .int .i64 0, .slice none 0 0] 62)
            have k6 := blk_new w1 (.cells #[.string ⟨#[]⟩, .int .i64 0, .bool false, .int .i64 0, .int .i64 0, .slice none 0 0] 62)
            have j7 := blk_alloc k7 (.cells #[.string ⟨#[]⟩, .int .i64 0, .bool false, .int .i64 0, .int .i64 0, .slice none 0 0] 62)
            have ne7 : B7 ≠ w1.heap.size := Nat.ne_of_lt (blk_lt k7)
            have g6 : wr.heap.size ≤ w1.heap.size := hb1.size
            refine hKC.out _ _ (HSB.out _ hb2) (fun hHeld => ?_)
            clear hKC KC k7
            try simp only [Act.put, List.setIfInBounds_toArray, List.set_cons_zero, List.set_cons_succ]
            generalize hw2 : World.alloc w1 (.cells #[.string ⟨#[]⟩, .int .i64 0, .bool false, .int .i64 0, .int .i64 0, .slice none 0 0] 62) = w2 at *
            generalize hB2 : w1.heap.size = B6 at *
            clear hw2 hB2
            refine wpAnyH_ready (rs := [10]) (by kernel_rfl) (by simp) (AllReadyH.cons (at_dropN rfl) (fun KC hKC => ?_) AllReadyH.nil)
            obtain ⟨⟨c0, c1, c2, c3, c4, c5⟩, f0, f1, f2, f3, f4, f5⟩ := cells6 k6
            go_simp
            have hb3 := below6 hb2 g6 (.string x.f0) (.int .i64 x.f1) (.bool x.f2) (.int .i64 x.f3) (.int .i64 x.f4) (.slice P0 x.f5.length q0)
            have m6 := put6 k6 (.string x.f0) (.int .i64 x.f1) (.bool x.f2) (.int .i64 x.f3) (.int .i64 x.f4) (.slice P0 x.f5.length q0)
            have m7 := far6 j7 (Ne.symm (ne7.symm)) (.string x.f0) (.int .i64 x.f1) (.bool x.f2) (.int .i64 x.f3) (.int .i64 x.f4) (.slice P0 x.f5.length q0)
            refine hKC.out _ _ (HSB.out _ hb3) (fun hHeld => ?_)
            clear hKC KC c0 c1 c2 c3 c4 c5 f0 f1 f2 f3 f4 f5 k6 j7
            try simp only [Act.put, List.setIfInBounds_toArray, List.set_cons_zero, List.set_cons_succ]
            generalize hw3 : (World.setCell (World.setCell (World.setCell (World.setCell (World.setCell (World.setCell w2 ⟨B6, 0, none⟩ (.string x.f0)) ⟨B6, 1, none⟩ (.int .i64 x.f1)) ⟨B6, 2, none⟩ (.bool x.f2)) ⟨B6, 3, none⟩ (.int .i64 x.f3)) ⟨B6, 4, none⟩ (.int .i64 x.f4)) ⟨B6, 5, none⟩ (.slice P0 x.f5.length q0)) = w3 at *
            clear hw3
            refine wpAnyH_ready (rs := [11]) (by kernel_rfl) (by simp) (AllReadyH.cons (at_dropN rfl) (fun KC hKC => ?_) AllReadyH.nil)
            obtain ⟨⟨c0, c1, c2, c3, c4, c5⟩, f0, f1, f2, f3, f4, f5⟩ := cells6 m7
            go_simp
            have hb4 := below6 hb3 g7 (.string y.f0) (.int .i64 y.f1) (.bool y.f2) (.int .i64 y.f3) (.int .i64 y.f4) (.slice P1 y.f5.length q1)
            have n7 := put6 m7 (.string y.f0) (.int .i64 y.f1) (.bool y.f2) (.int .i64 y.f3) (.int .i64 y.f4) (.slice P1 y.f5.length q1)
            have n6 := far6 m6 (ne7.symm) (.string y.f0) (.int .i64 y.f1) (.bool y.f2) (.int .i64 y.f3) (.int .i64 y.f4) (.slice P1 y.f5.length q1)
            refine hKC.out _ _ (HSB.out _ hb4) (fun hHeld => ?_)
            clear hKC KC c0 c1 c2 c3 c4 c5 f0 f1 f2 f3 f4 f5 m6 m7
            try simp only [Act.put, List.setIfInBounds_toArray, List.set_cons_zero, List.set_cons_succ]
            generalize hw4 : (World.setCell (World.setCell (World.setCell (World.setCell (World.setCell (World.setCell w3 ⟨B7, 0, none⟩ (.string y.f0)) ⟨B7, 1, none⟩ (.int .i64 y.f1)) ⟨B7, 2, none⟩ (.bool y.f2)) ⟨B7, 3, none⟩ (.int .i64 y.f3)) ⟨B7, 4, none⟩ (.int .i64 y.f4)) ⟨B7, 5, none⟩ (.slice P1 y.f5.length q1)) = w4 at *
            clear hw4
            refine wpAnyH_done (by kernel_rfl) ?_ _
            go_wp2_with fail
            go_meet
            exact ⟨B6, B7, rfl, rfl, n6, n7, hb4⟩
          exact AllReadyH.nil
        case rest =>
          obtain ⟨B6, B7, rfl, rfl, h6, h7, hb⟩ := hcut
          have hB2 := below_step hB hb
          obtain ⟨⟨c0, c1, c2, c3, c4, c5⟩, -⟩ := cells6 h6
          obtain ⟨⟨d0, d1, d2, d3, d4, d5⟩, -⟩ := cells6 h7
          have hcall := ih x.f5 y.f5 HSZ.out P0 q0 P1 q1 _ (Kd.C_below mc0 hb) (Kd.C_below mc1 hb)
          have HCALL := Lib.hid hcall
          have HH := HR.out
          unfold sameHd at HH
          clear hcall h6 h7 mc0 mc1 hx0 hx1 hx2 hx3 hx4 hx5 hy0 hy1 hy2 hy3 hy4 hy5 hS HSB
          by_cases e0 : (x.f0.toList == y.f0.toList) = true
          case neg =>
            replace e0 : (x.f0.toList == y.f0.toList) = false := Bool.eq_false_iff.2 e0
            have n0 : (x.f0.toList != y.f0.toList) = true := by rw [bne, e0]; rfl
            have HV : sameN (l0.drop k) (l1.drop k) = false := by rw [HH, e0]; simp only [Bool.false_and, Bool.and_false]
            have HVH := Lib.hid HV
            clear HV HH
            go_wp2_with fail
            go_ret
            exact ⟨by rw [← he, HVH.out]; rfl, hB2⟩
          have n0 : (x.f0.toList != y.f0.toList) = false := by rw [bne, e0]; rfl
          by_cases e1 : (x.f1 == y.f1) = true
          case neg =>
            replace e1 : (x.f1 == y.f1) = false := Bool.eq_false_iff.2 e1
            have n1 : (x.f1 != y.f1) = true := by rw [bne, e1]; rfl
            have HV : sameN (l0.drop k) (l1.drop k) = false := by rw [HH, e1]; simp only [Bool.false_and, Bool.and_false]
            have HVH := Lib.hid HV
            clear HV HH
            go_wp2_with fail
            go_ret
            exact ⟨by rw [← he, HVH.out]; rfl, hB2⟩
          have n1 : (x.f1 != y.f1) = false := by rw [bne, e1]; rfl
          by_cases e2 : (x.f2 == y.f2) = true
          case neg =>
            replace e2 : (x.f2 == y.f2) = false := Bool.eq_false_iff.2 e2
            have n2 : (x.f2 != y.f2) = true := by rw [bne, e2]; rfl
            have HV : sameN (l0.drop k) (l1.drop k) = false := by rw [HH, e2]; simp only [Bool.false_and, Bool.and_false]
            have HVH := Lib.hid HV
            clear HV HH
            go_wp2_with fail
            go_ret
            exact ⟨by rw [← he, HVH.out]; rfl, hB2⟩
          have n2 : (x.f2 != y.f2) = false := by rw [bne, e2]; rfl
          by_cases e3 : (x.f3 == y.f3) = true
          case neg =>
            replace e3 : (x.f3 == y.f3) = false := Bool.eq_false_iff.2 e3
            have n3 : (x.f3 != y.f3) = true := by rw [bne, e3]; rfl
            have HV : sameN (l0.drop k) (l1.drop k) = false := by rw [HH, e3]; simp only [Bool.false_and, Bool.and_false]
            have HVH := Lib.hid HV
            clear HV HH
            go_wp2_with fail
            go_ret
            exact ⟨by rw [← he, HVH.out]; rfl, hB2⟩
          have n3 : (x.f3 != y.f3) = false := by rw [bne, e3]; rfl
          by_cases e4 : (x.f4 == y.f4) = true
          case neg =>
            replace e4 : (x.f4 == y.f4) = false := Bool.eq_false_iff.2 e4
            have n4 : (x.f4 != y.f4) = true := by rw [bne, e4]; rfl
            have HV : sameN (l0.drop k) (l1.drop k) = false := by rw [HH, e4]; simp only [Bool.false_and, Bool.and_false]
            have HVH := Lib.hid HV
            clear HV HH
            go_wp2_with fail
            go_ret
            exact ⟨by rw [← he, HVH.out]; rfl, hB2⟩
          have n4 : (x.f4 != y.f4) = false := by rw [bne, e4]; rfl
          rw [e0, e1, e2, e3, e4] at HH
          simp only [Bool.true_and] at HH
          have HHH := Lib.hid HH
          clear HH
          obtain ⟨sk, hsk⟩ : ∃ s, sameN x.f5 y.f5 = s := ⟨_, rfl⟩
          rw [hsk] at HCALL HHH
          clear hsk
          cases sk
          · go_wp2_with fail
            refine HCALL.out.mono ?_
            rintro e w1 ⟨rfl, hb5⟩
            have hB3 := below_step hB2 hb5
            clear hb5
            go_wp2_with fail
            go_ret
            exact ⟨by rw [← he, HHH.out]; rfl, hB3⟩
          · go_wp2_with fail
            refine HCALL.out.mono ?_
            rintro e w1 ⟨rfl, hb5⟩
            have hB3 := below_step hB2 hb5
            clear hb5
            go_wp2_with fail
            go_roundw
            case rel => exact ⟨k + 1, by omega, by go_num, by rw [← he, HHH.out]; rfl, hB3⟩
            case measure => simp [intOf]; omega
      · have hkn' : k = l0.length := by omega
        subst hkn'
        have hz : sameN l0 l1 = true := by rw [← he, List.drop_length, HL.out, List.drop_length, sameN]
        go_wp2
        go_ret
        exact ⟨by rw [hz]; rfl, hB⟩
  · have hz : sameN l0 l1 = false := by rw [sameN_eq]; exact eqL_len _ l0 l1 hl
    have c1b0 : ((l0.length : Int) != (l1.length : Int)) = true := bne_iff_ne.mpr (by omega)
    go_enter Tryd.func33, Tryd.ntmps33
    go_wp2
    go_ret
    exact ⟨by rw [hz]; rfl, Below.refl _ _⟩
theorem refN_all : ∀ n, RefNAt n
  | 0 => fun l0 l1 hn => by
    exfalso
    cases l0 <;> simp at hn
  | n + 1 => refN_step (refN_all n)
theorem marquetryref16_same.calls (A0 : Option Addr) (c0 : Nat) (l0 : List (S62)) (A1 : Option Addr) (c1 : Nat) (l1 : List (S62)) (r : Bool) (w : World) (hr0 : Kd.C k62 w A0 l0.length l0) (hc0 : l0.length ≤ c0) (hr1 : Kd.C k62 w A1 l1.length l1) (hc1 : l1.length ≤ c1) (h : marquetryref16_same.f l0 l1 = some r) :
    Calls Tryd.prog 33 #[.slice A0 l0.length c0, .slice A1 l1.length c1] w fun e w' => e = .returned (.bool r) ∧ Below w.heap.size w w' := by
  unfold marquetryref16_same.f at h
  obtain rfl := Option.some.inj h
  exact refN_all _ l0 l1 (Nat.le_refl _) A0 c0 A1 c1 w hr0 hr1


end Go.Proofs.YtjdjlccdidfgoaaDoor.H
end
section
-- Laid by this session's hprint.py, out of the kit's print.py and texts of the session. Not trusted: Lean checks it.
namespace Go.Proofs.YtjdjlccdidfgoaaDoor.H
open Go.RowKit Go.Proofs.YtjdjlccdidfgoaaDoorW.PrintWords Go.Proofs.YtjdjlccdidfgoaaDoorW.PrintLast Go.Proofs.YtjdjlccdidfgoaaDoorW.PrintMore
attribute [local go_sem] max2_int min2_int max_two min_two max_three min_three max_four min_four   -- for this text's walks alone
set_option linter.unusedVariables false
set_option linter.unusedSimpArgs false

/-! ### marquetryref16_Same: function 13 -/
def marquetryref16_Same.f (a0_0 : ByteArray) (l0_1 : List (S62)) (a1_0 : ByteArray) (l1_1 : List (S62)) : Option (Bool) := if a0_0.toList = a1_0.toList then ((marquetryref16_same.f l0_1 l1_1).bind fun t146 => (some t146)) else (some false)
set_option maxHeartbeats 8000000 in
set_option maxRecDepth 100000 in
theorem marquetryref16_Same.calls (a0_0 : ByteArray) (A0_1 : Option Addr) (c0_1 : Nat) (l0_1 : List (S62)) (a1_0 : ByteArray) (A1_1 : Option Addr) (c1_1 : Nat) (l1_1 : List (S62)) (r : Bool) (w : World) (hr0_1 : Kd.C k62 w A0_1 l0_1.length l0_1) (hc0_1 : l0_1.length ≤ c0_1) (hr1_1 : Kd.C k62 w A1_1 l1_1.length l1_1) (hc1_1 : l1_1.length ≤ c1_1) (h : marquetryref16_Same.f a0_0 l0_1 a1_0 l1_1 = some r) :
    Calls Tryd.prog 13 #[.agg #[.string a0_0, .slice A0_1 l0_1.length c0_1], .agg #[.string a1_0, .slice A1_1 l1_1.length c1_1]] w fun e w' => e = .returned (.bool r) ∧ Below w.heap.size w w' := by
  have hu24 := Tryd.underlying24
  have HR0_1 := Aside0.mk hr0_1
  have HC0_1 := Aside0.mk hc0_1
  clear hr0_1 hc0_1
  have HR1_1 := Aside0.mk hr1_1
  have HC1_1 := Aside0.mk hc1_1
  clear hr1_1 hc1_1
  have HB := Aside0.mk (Below.refl w.heap.size w)
  have H : (if a0_0.toList = a1_0.toList then ((marquetryref16_same.f l0_1 l1_1).bind fun t146 => (some t146)) else (some false)) = some r := h
  clear h
  by_cases c3 : a0_0.toList = a1_0.toList
  · rw [if_pos c3] at H
    have c3b0 : (a0_0.toList == a1_0.toList) = true := beq_iff_eq.mpr c3
    have c3b1 : (a0_0.toList != a1_0.toList) = false := bne_eq_false_iff_eq.mpr c3
    clear c3
    replace H := Option.bind_eq_some_iff.mp H
    obtain ⟨t146, A40, H⟩ := H
    replace H : (some t146) = some r := H
    have A4 := Aside0.mk A40
    clear A40
    obtain rfl := Option.some.inj H
    go_enter Tryd.func13, Tryd.ntmps13
    go_wp2_with (first | ((with_reducible refine gate_dst (N := 2) rfl ?_); refine box_event ?hg (N := 2) ?hd (cs := #[.string a0_0, .slice A0_1 l0_1.length c0_1]) (t := 24) ?hr ?_; (case hd => rfl); (case hg => rfl); (case hr => first | (go_simp; done) | (go_simp; rfl)); intro gb144 hg w5 hbox hb; have n0_ := Aside0.mk (below_step (by repeat (first | (with_reducible first | exact HB.out | apply below_alloc | apply pw_below_drewN | apply below_drew1) | exact HB.out)) hb); have n1_ := Aside0.mk (hbox); have n2_ := Aside0.mk ((by rw [hg]; exact (below_size (by repeat (first | (with_reducible first | exact HB.out | apply below_alloc | apply pw_below_drewN | apply below_drew1) | exact HB.out))) : w.heap.size ≤ gb144)); have n3_ := Aside0.mk ((by rw [hg]; exact (below_size (by repeat (first | (with_reducible first | exact HB.out | apply below_alloc | apply pw_below_drewN | apply below_drew1) | exact HB.out))) : w.heap.size ≤ gb144)); clear HB; have HB := n0_; have BK144 := n1_; have GW144 := n2_; have GE144 := n3_; clear n0_ n1_ n2_ n3_; clear hb hbox hg) | ((with_reducible refine gate_dst (N := 3) rfl ?_); refine box_event ?hg (N := 3) ?hd (cs := #[.string a1_0, .slice A1_1 l1_1.length c1_1]) (t := 24) ?hr ?_; (case hd => rfl); (case hg => rfl); (case hr => first | (go_simp; done) | (go_simp; rfl)); intro gb145 hg w6 hbox hb; have n0_ := Aside0.mk (blk_below (g := gb144) (o := .cells #[.string a0_0, .slice A0_1 l0_1.length c0_1] 24 (0, 0)) (by (with_reducible repeat (first | refine blk_drewN ?_ _ | refine blk_drew ?_ | refine blk_alloc ?_ _)); exact BK144.out) hb); have n1_ := Aside0.mk (below_step (by repeat (first | (with_reducible first | exact HB.out | apply below_alloc | apply pw_below_drewN | apply below_drew1 | refine below_set ?_ GE144.out) | exact HB.out)) hb); have n2_ := Aside0.mk (hbox); have n3_ := Aside0.mk ((by rw [hg]; exact (below_size (by repeat (first | (with_reducible first | exact HB.out | apply below_alloc | apply pw_below_drewN | apply below_drew1 | refine below_set ?_ GE144.out) | exact HB.out))) : w.heap.size ≤ gb145)); have n4_ := Aside0.mk ((by rw [hg]; exact (below_size (by repeat (first | (with_reducible first | exact HB.out | apply below_alloc | apply pw_below_drewN | apply below_drew1 | refine below_set ?_ GE144.out) | exact HB.out))) : w.heap.size ≤ gb145)); have n5_ := Aside0.mk ((by rw [hg]; exact Nat.ne_of_lt (blk_lt (g := gb144) (o := .cells #[.string a0_0, .slice A0_1 l0_1.length c0_1] 24 (0, 0)) (by (with_reducible repeat (first | refine blk_drewN ?_ _ | refine blk_drew ?_ | refine blk_alloc ?_ _)); exact BK144.out)) : gb144 ≠ gb145)); have n6_ := Aside0.mk ((by rw [hg]; exact Nat.ne_of_gt (blk_lt (g := gb144) (o := .cells #[.string a0_0, .slice A0_1 l0_1.length c0_1] 24 (0, 0)) (by (with_reducible repeat (first | refine blk_drewN ?_ _ | refine blk_drew ?_ | refine blk_alloc ?_ _)); exact BK144.out)) : gb145 ≠ gb144)); clear BK144; clear HB; have BK144 := n0_; have HB := n1_; have BK145 := n2_; have GW145 := n3_; have GE145 := n4_; have NB144_145 := n5_; have NB145_144 := n6_; clear n0_ n1_ n2_ n3_ n4_ n5_ n6_; clear hb hbox hg; have hnb7 := NB144_145.out; have hnc7 := NB145_144.out; have hcz8_0 : w6.cell? ⟨gb144, 0, none⟩ = some (.string a0_0) := (blk_cell BK144.out 0).trans rfl; have hcz8_1 : w6.cell? ⟨gb144, 1, none⟩ = some (.slice A0_1 l0_1.length c0_1) := (blk_cell BK144.out 1).trans rfl; have hfz8_0 := blk_frozen BK144.out 0; have hfz8_1 := blk_frozen BK144.out 1; have hcz9_0 : w6.cell? ⟨gb145, 0, none⟩ = some (.string a1_0) := (blk_cell BK145.out 0).trans rfl; have hcz9_1 : w6.cell? ⟨gb145, 1, none⟩ = some (.slice A1_1 l1_1.length c1_1) := (blk_cell BK145.out 1).trans rfl; have hfz9_0 := blk_frozen BK145.out 0; have hfz9_1 := blk_frozen BK145.out 1) | (go_at_call 33; (with_reducible refine (marquetryref16_same.calls _ _ l0_1 _ _ l1_1 t146 _ ?side1 ?side2 ?side3 ?side4 A4.out).mono ?_); (case side1 => repeat (first | exact (Kd.C_below HR0_1.out HB.out) | (with_reducible refine Kd.C_alloc ?_ _) | (with_reducible refine Kd.C_drewN ?_ _) | (with_reducible refine Kd.C_drew ?_))); (case side2 => exact HC0_1.out); (case side3 => repeat (first | exact (Kd.C_below HR1_1.out HB.out) | (with_reducible refine Kd.C_alloc ?_ _) | (with_reducible refine Kd.C_drewN ?_ _) | (with_reducible refine Kd.C_drew ?_))); (case side4 => exact HC1_1.out); rintro e w10 ⟨rfl, hb⟩; have n0_ := Aside0.mk (blk_below (g := gb144) (o := .cells #[.string a0_0, .slice A0_1 l0_1.length c0_1] 24 (0, 0)) (by (with_reducible repeat (first | refine blk_drewN ?_ _ | refine blk_drew ?_ | refine blk_alloc ?_ _)); exact BK144.out) hb); have n1_ := Aside0.mk (blk_below (g := gb145) (o := .cells #[.string a1_0, .slice A1_1 l1_1.length c1_1] 24 (0, 0)) (by (with_reducible repeat (first | refine blk_drewN ?_ _ | refine blk_drew ?_ | refine blk_alloc ?_ _)); exact BK145.out) hb); have n2_ := Aside0.mk (below_step (by repeat (first | (with_reducible first | exact HB.out | apply below_alloc | apply pw_below_drewN | apply below_drew1 | refine below_set ?_ GE144.out | refine below_set ?_ GE145.out) | exact HB.out)) hb); clear BK144; clear BK145; clear HB; have BK144 := n0_; have BK145 := n1_; have HB := n2_; clear n0_ n1_ n2_; (try clear hb); (try clear hb2); (try clear hk); (try clear hi)))
    go_ret
    exact ⟨by first | rfl | (simp [errW_none, errW_some] <;> rfl) | (simp [*, errW_none, errW_some] <;> rfl), by repeat (first | (with_reducible first | exact HB.out | apply below_alloc | apply pw_below_drewN | apply below_drew1 | refine below_set ?_ GE144.out | refine below_set ?_ GE145.out) | exact HB.out)⟩
  · rw [if_neg c3] at H
    have c3b0 : (a0_0.toList == a1_0.toList) = false := beq_eq_false_iff_ne.mpr c3
    have c3b1 : (a0_0.toList != a1_0.toList) = true := bne_iff_ne.mpr c3
    obtain rfl := Option.some.inj H
    go_enter Tryd.func13, Tryd.ntmps13
    go_wp2_with (first | ((with_reducible refine gate_dst (N := 2) rfl ?_); refine box_event ?hg (N := 2) ?hd (cs := #[.string a0_0, .slice A0_1 l0_1.length c0_1]) (t := 24) ?hr ?_; (case hd => rfl); (case hg => rfl); (case hr => first | (go_simp; done) | (go_simp; rfl)); intro gb144 hg w11 hbox hb; have n0_ := Aside0.mk (below_step (by repeat (first | (with_reducible first | exact HB.out | apply below_alloc | apply pw_below_drewN | apply below_drew1) | exact HB.out)) hb); have n1_ := Aside0.mk (hbox); have n2_ := Aside0.mk ((by rw [hg]; exact (below_size (by repeat (first | (with_reducible first | exact HB.out | apply below_alloc | apply pw_below_drewN | apply below_drew1) | exact HB.out))) : w.heap.size ≤ gb144)); have n3_ := Aside0.mk ((by rw [hg]; exact (below_size (by repeat (first | (with_reducible first | exact HB.out | apply below_alloc | apply pw_below_drewN | apply below_drew1) | exact HB.out))) : w.heap.size ≤ gb144)); clear HB; have HB := n0_; have BK144 := n1_; have GW144 := n2_; have GE144 := n3_; clear n0_ n1_ n2_ n3_; clear hb hbox hg) | ((with_reducible refine gate_dst (N := 3) rfl ?_); refine box_event ?hg (N := 3) ?hd (cs := #[.string a1_0, .slice A1_1 l1_1.length c1_1]) (t := 24) ?hr ?_; (case hd => rfl); (case hg => rfl); (case hr => first | (go_simp; done) | (go_simp; rfl)); intro gb145 hg w12 hbox hb; have n0_ := Aside0.mk (blk_below (g := gb144) (o := .cells #[.string a0_0, .slice A0_1 l0_1.length c0_1] 24 (0, 0)) (by (with_reducible repeat (first | refine blk_drewN ?_ _ | refine blk_drew ?_ | refine blk_alloc ?_ _)); exact BK144.out) hb); have n1_ := Aside0.mk (below_step (by repeat (first | (with_reducible first | exact HB.out | apply below_alloc | apply pw_below_drewN | apply below_drew1 | refine below_set ?_ GE144.out) | exact HB.out)) hb); have n2_ := Aside0.mk (hbox); have n3_ := Aside0.mk ((by rw [hg]; exact (below_size (by repeat (first | (with_reducible first | exact HB.out | apply below_alloc | apply pw_below_drewN | apply below_drew1 | refine below_set ?_ GE144.out) | exact HB.out))) : w.heap.size ≤ gb145)); have n4_ := Aside0.mk ((by rw [hg]; exact (below_size (by repeat (first | (with_reducible first | exact HB.out | apply below_alloc | apply pw_below_drewN | apply below_drew1 | refine below_set ?_ GE144.out) | exact HB.out))) : w.heap.size ≤ gb145)); have n5_ := Aside0.mk ((by rw [hg]; exact Nat.ne_of_lt (blk_lt (g := gb144) (o := .cells #[.string a0_0, .slice A0_1 l0_1.length c0_1] 24 (0, 0)) (by (with_reducible repeat (first | refine blk_drewN ?_ _ | refine blk_drew ?_ | refine blk_alloc ?_ _)); exact BK144.out)) : gb144 ≠ gb145)); have n6_ := Aside0.mk ((by rw [hg]; exact Nat.ne_of_gt (blk_lt (g := gb144) (o := .cells #[.string a0_0, .slice A0_1 l0_1.length c0_1] 24 (0, 0)) (by (with_reducible repeat (first | refine blk_drewN ?_ _ | refine blk_drew ?_ | refine blk_alloc ?_ _)); exact BK144.out)) : gb145 ≠ gb144)); clear BK144; clear HB; have BK144 := n0_; have HB := n1_; have BK145 := n2_; have GW145 := n3_; have GE145 := n4_; have NB144_145 := n5_; have NB145_144 := n6_; clear n0_ n1_ n2_ n3_ n4_ n5_ n6_; clear hb hbox hg; have hnb13 := NB144_145.out; have hnc13 := NB145_144.out; have hcz14_0 : w12.cell? ⟨gb144, 0, none⟩ = some (.string a0_0) := (blk_cell BK144.out 0).trans rfl; have hcz14_1 : w12.cell? ⟨gb144, 1, none⟩ = some (.slice A0_1 l0_1.length c0_1) := (blk_cell BK144.out 1).trans rfl; have hfz14_0 := blk_frozen BK144.out 0; have hfz14_1 := blk_frozen BK144.out 1; have hcz15_0 : w12.cell? ⟨gb145, 0, none⟩ = some (.string a1_0) := (blk_cell BK145.out 0).trans rfl; have hcz15_1 : w12.cell? ⟨gb145, 1, none⟩ = some (.slice A1_1 l1_1.length c1_1) := (blk_cell BK145.out 1).trans rfl; have hfz15_0 := blk_frozen BK145.out 0; have hfz15_1 := blk_frozen BK145.out 1))
    go_ret
    exact ⟨by first | rfl | (simp [errW_none, errW_some] <;> rfl) | (simp [*, errW_none, errW_some] <;> rfl), by repeat (first | (with_reducible first | exact HB.out | apply below_alloc | apply pw_below_drewN | apply below_drew1 | refine below_set ?_ GE144.out | refine below_set ?_ GE145.out) | exact HB.out)⟩

end Go.Proofs.YtjdjlccdidfgoaaDoor.H
end
