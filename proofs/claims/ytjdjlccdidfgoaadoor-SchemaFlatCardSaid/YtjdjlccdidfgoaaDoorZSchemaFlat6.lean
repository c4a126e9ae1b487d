/- Texts of the claim, packed: H0, H50, H51, H5, H6, H1, H3, H13, H14, H15, H16, H17, H18, H19, H20, H21, H11, H12. -/
import Derived.ArgAppend
import Derived.Below
import Derived.BigQuiet
import Derived.Deep.AppendLies
import Derived.Deep.CutBlock
import Derived.Deep.DeepCutAuto
import Derived.Deep.Draws
import Derived.Deep.LoopGhost
import Derived.Deep.OwnRows
import Derived.Deep.QuietTactic
import Derived.Deep.RegionHeld3
import Derived.KernelRfl
import Derived.Laws.BitsLemmas
import Derived.Laws.BytesArg
import Derived.Laws.IdiomCopy
import Derived.Laws.MakeOwn
import Derived.Laws.OwnMore
import Derived.Laws.Rows
import Derived.Laws.Slices
import Derived.Lib.AppendStr
import Derived.Lib.ConvBytes
import Derived.Maps.AppendAt
import Derived.OrdersHeld
import Derived.OwnWalk
import Derived.RowKit
import Derived.RowKit3
import Derived.Tactics
import Derived.Test.YtjdjlccdidfgoaaDoorProg
import Derived.WalkKit
import Derived.WideLaws
import Derived.Test.YtjdjlccdidfgoaaDoorZSchemaFlat0
import Derived.Test.YtjdjlccdidfgoaaDoorZSchemaFlat2
import Derived.Test.YtjdjlccdidfgoaaDoorZSchemaFlat3
import Derived.Test.YtjdjlccdidfgoaaDoorZSchemaFlat4
import Derived.Test.YtjdjlccdidfgoaaDoorZSchemaFlat5
section
-- Laid by this session's hprint.py, out of the kit's print.py and texts of the session. Not trusted: Lean checks it.
namespace Go.Proofs.YtjdjlccdidfgoaaDoor.H
open Go.RowKit Go.Proofs.YtjdjlccdidfgoaaDoorW.PrintWords Go.Proofs.YtjdjlccdidfgoaaDoorW.PrintLast Go.Proofs.YtjdjlccdidfgoaaDoorW.PrintMore
attribute [local go_sem] max2_int min2_int max_two min_two max_three min_three max_four min_four   -- for this text's walks alone
set_option linter.unusedVariables false
set_option linter.unusedSimpArgs false



def errW : Option Int → Value
  | none => .nilIface
  | some c => .iface 0 (.int .i64 c)
theorem errW_none : errW none = .nilIface := rfl
theorem errW_some (c : Int) : errW (some c) = .iface 0 (.int .i64 c) := rfl

theorem info43 : (Tryd.prog.info? 43).map (fun i => (i.zero, i.size, i.bytes)) = some (some (.agg #[(.string ⟨#[]⟩), (.int .i64 0), (.int .i64 0), (.int .i64 0), (.int .i64 0)]), 5, 48) := by kernel_rfl
theorem info62 : (Tryd.prog.info? 62).map (fun i => (i.zero, i.size, i.bytes)) = some (some (.agg #[(.string ⟨#[]⟩), (.int .i64 0), (.bool false), (.int .i64 0), (.int .i64 0), (.slice none 0 0)]), 6, 72) := by kernel_rfl
-- the values' own types
/-! #### struct type 62, nested in itself -/
structure S62 where
  f0 : ByteArray
  f1 : Int
  f2 : Bool
  f3 : Int
  f4 : Int
  f5 : (List S62)
def z62 : S62 := ⟨(⟨#[]⟩ : ByteArray), (0 : Int), false, (0 : Int), (0 : Int), ([] : List S62)⟩
def F62 (d : Kd S62) : Kd S62 := Kd.iso (Kd.pair Kd.string (Kd.pair (Kd.int .i64) (Kd.pair Kd.bool (Kd.pair (Kd.int .i64) (Kd.pair (Kd.int .i64) (Kd.slice 62 d)))))) (fun x : S62 => (x.f0, x.f1, x.f2, x.f3, x.f4, x.f5))
theorem mono62 : Kd.Mono F62 := Kd.mono_iso _ (Kd.mono_pair (Kd.mono_const _) (Kd.mono_pair (Kd.mono_const _) (Kd.mono_pair (Kd.mono_const _) (Kd.mono_pair (Kd.mono_const _) (Kd.mono_pair (Kd.mono_const _) (Kd.mono_slice 62 Kd.mono_id))))))
theorem sub62 : Kd.Sub F62 [62] := Kd.sub_iso _ (Kd.sub_pair (Kd.sub_const _ (by decide)) (Kd.sub_pair (Kd.sub_const _ (by decide)) (Kd.sub_pair (Kd.sub_const _ (by decide)) (Kd.sub_pair (Kd.sub_const _ (by decide)) (Kd.sub_pair (Kd.sub_const _ (by decide)) (Kd.sub_slice 62 (by decide) Kd.sub_id))))))
theorem sz62 : ∀ n, (Kd.upto F62 6 [62] n).sz = 6 := Kd.upto_sz (fun _ => rfl)
def k62 : Kd S62 := Kd.fix F62 6 [62] sz62 (Kd.upto_E sub62)
theorem k62_open {w : World} {x : S62} {cs : List Value} (h : k62.K w x cs) : ∃ A5 c5, cs = [.string x.f0, .int .i64 x.f1, .bool x.f2, .int .i64 x.f3, .int .i64 x.f4, .slice A5 x.f5.length c5] ∧ x.f5.length ≤ c5 ∧ k62.C w A5 x.f5.length x.f5 := by
  obtain ⟨n, h⟩ := h
  cases n with
  | zero => exact h.elim
  | succ n =>
    obtain ⟨_, _, rfl, rfl, ⟨_, _, rfl, rfl, ⟨_, _, rfl, rfl, ⟨_, _, rfl, rfl, ⟨_, _, rfl, rfl, ⟨A5, c5, rfl, l5, g5⟩⟩⟩⟩⟩⟩ := h
    exact ⟨A5, c5, rfl, l5, Kd.fix_C g5⟩
theorem k62_mkM (w : World) (base : Nat) (ok : Nat → Prop) (x : S62) {v5 : Value} (g5 : k62.R 62 w base ok v5 x.f5) : k62.M w base ok x [.string x.f0, .int .i64 x.f1, .bool x.f2, .int .i64 x.f3, .int .i64 x.f4, v5] := by
  obtain ⟨n5, q5⟩ := Kd.fix_R_back mono62 g5
  have r5 := Kd.upto_R_le mono62 sz62 (show n5 ≤ n5 by omega) q5
  exact ⟨n5 + 1, ⟨[.string x.f0], [.int .i64 x.f1, .bool x.f2, .int .i64 x.f3, .int .i64 x.f4, v5], rfl, rfl, ⟨[.int .i64 x.f1], [.bool x.f2, .int .i64 x.f3, .int .i64 x.f4, v5], rfl, rfl, ⟨[.bool x.f2], [.int .i64 x.f3, .int .i64 x.f4, v5], rfl, rfl, ⟨[.int .i64 x.f3], [.int .i64 x.f4, v5], rfl, rfl, ⟨[.int .i64 x.f4], [v5], rfl, rfl, ⟨v5, rfl, r5⟩⟩⟩⟩⟩⟩⟩
def rd_T62 (xs : List S62) (i : Int) : S62 := xs.getD i.toNat z62
theorem at_T62 {w : World} {A : Option Addr} {n : Nat} {xs : List S62} (h : Kd.C k62 w A n xs) (i : Int) (h0 : 0 ≤ i) (h1 : i < n) : ∃ ad A5 c5, A = some ad ∧ w.cell? (ad.add (i.toNat * 6)) = some (.string (rd_T62 xs i).f0) ∧ w.cell? ⟨(ad.add (i.toNat * 6)).block, (ad.add (i.toNat * 6)).off + 1, none⟩ = some (.int .i64 (rd_T62 xs i).f1) ∧ w.cell? ⟨(ad.add (i.toNat * 6)).block, (ad.add (i.toNat * 6)).off + 2, none⟩ = some (.bool (rd_T62 xs i).f2) ∧ w.cell? ⟨(ad.add (i.toNat * 6)).block, (ad.add (i.toNat * 6)).off + 3, none⟩ = some (.int .i64 (rd_T62 xs i).f3) ∧ w.cell? ⟨(ad.add (i.toNat * 6)).block, (ad.add (i.toNat * 6)).off + 4, none⟩ = some (.int .i64 (rd_T62 xs i).f4) ∧ w.cell? ⟨(ad.add (i.toNat * 6)).block, (ad.add (i.toNat * 6)).off + 5, none⟩ = some (.slice A5 (rd_T62 xs i).f5.length c5) ∧ (rd_T62 xs i).f5.length ≤ c5 ∧ k62.C w A5 (rd_T62 xs i).f5.length (rd_T62 xs i).f5 := by
  obtain ⟨ad, c, e, _, hK, hc0⟩ := Kd.C_get h z62 i h0 h1
  have hc : ∀ j u, c[j]? = some u → w.cell? (ad.add (i.toNat * 6 + j)) = some u := hc0
  obtain ⟨A5, c5, rfl, l5, g5⟩ := k62_open hK
  exact ⟨ad, A5, c5, e, hc 0 _ rfl, by rw [← add_field _ _ 1 (by omega)]; exact hc 1 _ rfl, by rw [← add_field _ _ 2 (by omega)]; exact hc 2 _ rfl, by rw [← add_field _ _ 3 (by omega)]; exact hc 3 _ rfl, by rw [← add_field _ _ 4 (by omega)]; exact hc 4 _ rfl, by rw [← add_field _ _ 5 (by omega)]; exact hc 5 _ rfl, l5, g5⟩

/-! #### struct type 50 -/
structure S50 where
  f0 : Int
  f1 : Int
/-! #### struct type 24 -/
structure S24 where
  f0 : ByteArray
  f1 : (List S62)
def k24 : Kd S24 := Kd.iso (Kd.pair Kd.string (Kd.slice 62 k62)) (fun x : S24 => (x.f0, x.f1))
theorem k24_open {w : World} {x : S24} {cs : List Value} (h : k24.K w x cs) : ∃ A1 c1, cs = [.string x.f0, .slice A1 x.f1.length c1] ∧ x.f1.length ≤ c1 ∧ k62.C w A1 x.f1.length x.f1 := by
  obtain ⟨_, _, rfl, rfl, ⟨A1, c1, rfl, l1, g1⟩⟩ := h
  exact ⟨A1, c1, rfl, l1, g1⟩
/-! #### struct type 52 -/
structure S52 where
  f0 : (List ByteArray)
  f1 : (List Int)
  f2 : Int
  f3 : Int
  f4 : S50
/-! #### struct type 43 -/
structure S43 where
  f0 : ByteArray
  f1 : Int
  f2 : Int
  f3 : Int
  f4 : Int
def z43 : S43 := ⟨(⟨#[]⟩ : ByteArray), (0 : Int), (0 : Int), (0 : Int), (0 : Int)⟩
def k43 : Kd S43 := Kd.iso (Kd.pair Kd.string (Kd.pair (Kd.int .i64) (Kd.pair (Kd.int .i64) (Kd.pair (Kd.int .i64) (Kd.int .i64))))) (fun x : S43 => (x.f0, x.f1, x.f2, x.f3, x.f4))
theorem k43_open {w : World} {x : S43} {cs : List Value} (h : k43.K w x cs) : cs = [.string x.f0, .int .i64 x.f1, .int .i64 x.f2, .int .i64 x.f3, .int .i64 x.f4] := by
  obtain ⟨_, _, rfl, rfl, ⟨_, _, rfl, rfl, ⟨_, _, rfl, rfl, ⟨_, _, rfl, rfl, rfl⟩⟩⟩⟩ := h
  exact rfl
theorem k43_mkM (w : World) (base : Nat) (ok : Nat → Prop) (x : S43)  : k43.M w base ok x [.string x.f0, .int .i64 x.f1, .int .i64 x.f2, .int .i64 x.f3, .int .i64 x.f4] := ⟨[.string x.f0], [.int .i64 x.f1, .int .i64 x.f2, .int .i64 x.f3, .int .i64 x.f4], rfl, rfl, ⟨[.int .i64 x.f1], [.int .i64 x.f2, .int .i64 x.f3, .int .i64 x.f4], rfl, rfl, ⟨[.int .i64 x.f2], [.int .i64 x.f3, .int .i64 x.f4], rfl, rfl, ⟨[.int .i64 x.f3], [.int .i64 x.f4], rfl, rfl, rfl⟩⟩⟩⟩
def rd_T43 (xs : List S43) (i : Int) : S43 := xs.getD i.toNat z43
theorem at_T43 {w : World} {A : Option Addr} {n : Nat} {xs : List S43} (h : Kd.C k43 w A n xs) (i : Int) (h0 : 0 ≤ i) (h1 : i < n) : ∃ ad , A = some ad ∧ w.cell? (ad.add (i.toNat * 5)) = some (.string (rd_T43 xs i).f0) ∧ w.cell? ⟨(ad.add (i.toNat * 5)).block, (ad.add (i.toNat * 5)).off + 1, none⟩ = some (.int .i64 (rd_T43 xs i).f1) ∧ w.cell? ⟨(ad.add (i.toNat * 5)).block, (ad.add (i.toNat * 5)).off + 2, none⟩ = some (.int .i64 (rd_T43 xs i).f2) ∧ w.cell? ⟨(ad.add (i.toNat * 5)).block, (ad.add (i.toNat * 5)).off + 3, none⟩ = some (.int .i64 (rd_T43 xs i).f3) ∧ w.cell? ⟨(ad.add (i.toNat * 5)).block, (ad.add (i.toNat * 5)).off + 4, none⟩ = some (.int .i64 (rd_T43 xs i).f4) := by
  obtain ⟨ad, c, e, _, hK, hc0⟩ := Kd.C_get h z43 i h0 h1
  have hc : ∀ j u, c[j]? = some u → w.cell? (ad.add (i.toNat * 5 + j)) = some u := hc0
  obtain rfl := k43_open hK
  exact ⟨ad, e, hc 0 _ rfl, by rw [← add_field _ _ 1 (by omega)]; exact hc 1 _ rfl, by rw [← add_field _ _ 2 (by omega)]; exact hc 2 _ rfl, by rw [← add_field _ _ 3 (by omega)]; exact hc 3 _ rfl, by rw [← add_field _ _ 4 (by omega)]; exact hc 4 _ rfl⟩

end Go.Proofs.YtjdjlccdidfgoaaDoor.H
end
section
-- Laid by this session's hprint.py, out of the kit's print.py and texts of the session. Not trusted: Lean checks it.
namespace Go.Proofs.YtjdjlccdidfgoaaDoor.H
open Go.RowKit Go.Proofs.YtjdjlccdidfgoaaDoorW.PrintWords Go.Proofs.YtjdjlccdidfgoaaDoorW.PrintLast Go.Proofs.YtjdjlccdidfgoaaDoorW.PrintMore
attribute [local go_sem] max2_int min2_int max_two min_two max_three min_three max_four min_four   -- for this text's walks alone
set_option linter.unusedVariables false
set_option linter.unusedSimpArgs false

/-! ### marquetryref16_Flat: function 40 -/
mutual
def marquetryref16_Flat.l0 : Nat → List (S62) → List (S43) → Int → Option ((List (S43)))
  | 0, _, _, _ => none
  | k + 1, x0, x3, x4 => if x4 < (x0.length : Int) then (if 0 ≤ x4 then (if x3.length < 2932031007402 then ((some (x3 ++ [(⟨(rd_T62 x0 x4).f0, (rd_T62 x0 x4).f1, (((rd_T62 x0 x4).f5).length : Int), (rd_T62 x0 x4).f3, (rd_T62 x0 x4).f4⟩ : S43)] : List (S43))).bind fun y276 => ((marquetryref16_Flat.f k ((rd_T62 x0 x4).f5)).bind fun t279 => (if y276.length + t279.length < 2932031007402 then (marquetryref16_Flat.l0 k x0 (y276 ++ t279) (wrap64 (x4 + 1))) else (none)))) else (none)) else (none)) else (some x3)
def marquetryref16_Flat.f : Nat → List (S62) → Option ((List (S43)))
  | 0, _ => none
  | k + 1, l0 => marquetryref16_Flat.l0 k l0 ([] : List (S43)) 0
end
set_option maxHeartbeats 8000000 in
set_option maxRecDepth 100000 in
theorem marquetryref16_Flat.calls (k : Nat) : ∀ (A0 : Option Addr) (c0 : Nat) (l0 : List (S62)) (r : List (S43)) (w : World) (hr0 : Kd.C k62 w A0 l0.length l0) (hc0 : l0.length ≤ c0) (h : marquetryref16_Flat.f k l0 = some r),
    Calls Tryd.prog 40 #[.slice A0 l0.length c0] w fun e w' => ∃ v0_ : Value, e = .returned (v0_) ∧ Kd.R k43 43 w' w.heap.size (fun _ => True) v0_ r ∧ Below w.heap.size w w' := by
  induction k using Nat.strongRecOn with
  | _ k ih =>
  intro A0 c0 l0 r w hr0 hc0 h
  cases k with
  | zero => exact absurd h (by simp [marquetryref16_Flat.f])
  | succ k =>
  simp only [marquetryref16_Flat.f] at h
  have hu62 := Tryd.underlying62
  have hu43 := Tryd.underlying43
  have HR0 := Aside0.mk hr0
  have HC0 := Aside0.mk hc0
  clear hr0 hc0
  have HB := Aside0.mk (Below.refl w.heap.size w)
  have H : (marquetryref16_Flat.l0 k l0 ([] : List (S43)) 0) = some r := h
  clear h
  have H' := Aside0.mk H
  clear H
  go_enter Tryd.func40, Tryd.ntmps40
  go_wp2
  go_loopg [3, 4] k (fun kq v3 v4 w' => ∃ (x3_1 : List (S43)) (x4_1 : Int), v4 = .int .i64 x4_1 ∧ Aside0 (marquetryref16_Flat.l0 kq l0 x3_1 x4_1 = some r) ∧ Aside0 (kq ≤ k) ∧ Aside0 (Kd.R k43 43 w' w.heap.size (fun _ => True) v3 x3_1) ∧ Aside0 (Below w.heap.size w w'))
  case atStart => exact ⟨(([] : List (S43))), (0), (by first | rfl | (simp; done) | (simp [*]; done)), H', ⟨Nat.le_refl _⟩, ⟨by first | exact Kd.R_nil _ _ _ _ _ | exact Kd.N_nil _ _ _ _ _ | exact Kd.V_nil _ _ _ _ _ | exact Kd.Q_nil _ _ _ _ _ | exact Kd.S_nil _ _ _ _ _⟩, ⟨by repeat (first | (with_reducible first | exact HB.out | apply below_alloc | apply pw_below_drewN | apply below_drew1) | exact HB.out)⟩⟩
  case round =>
    clear H'
    obtain ⟨x3_1, x4_1, rfl, HA, HK1, HO_3, HB⟩ := hrel
    cases gk with
    | zero => exact absurd HA.out (by simp [marquetryref16_Flat.l0])
    | succ k1 =>
      have H := HA.out
      clear HA
      simp only [marquetryref16_Flat.l0] at H
      by_cases c2 : x4_1 < (l0.length : Int)
      · rw [if_pos c2] at H
        have c2b0 : decide (x4_1 < (l0.length : Int)) = true := decide_eq_true c2
        clear c2
        by_cases c3 : 0 ≤ x4_1
        · rw [if_pos c3] at H
          have c3b0 : decide (0 ≤ x4_1) = true := decide_eq_true c3
          clear c3
          by_cases c4 : x3_1.length < 2932031007402
          · rw [if_pos c4] at H
            have LMc4 := Aside0.mk c4
            clear c4
            obtain ⟨y276, hy276⟩ : ∃ y_ : List (S43), y_ = (x3_1 ++ [(⟨(rd_T62 l0 x4_1).f0, (rd_T62 l0 x4_1).f1, (((rd_T62 l0 x4_1).f5).length : Int), (rd_T62 l0 x4_1).f3, (rd_T62 l0 x4_1).f4⟩ : S43)]) := ⟨_, rfl⟩
            replace H : ((marquetryref16_Flat.f k1 ((rd_T62 l0 x4_1).f5)).bind fun t279 => (if y276.length + t279.length < 2932031007402 then (marquetryref16_Flat.l0 k1 l0 (y276 ++ t279) (wrap64 (x4_1 + 1))) else (none))) = some r := by first | (rw [hy276]; with_reducible exact H) | (have H2_ := (Option.bind_some _ _).symm.trans H; rw [hy276]; with_reducible exact H2_) | (have H2_ := (Option.bind_some _ _).symm.trans H; with_reducible exact H2_) | with_reducible exact H | (rw [hy276]; exact H) | exact H
            have Ny276 := Aside0.mk hy276
            clear hy276
            replace H := Option.bind_eq_some_iff.mp H
            obtain ⟨t279, A50, H⟩ := H
            replace H : (if y276.length + t279.length < 2932031007402 then (marquetryref16_Flat.l0 k1 l0 (y276 ++ t279) (wrap64 (x4_1 + 1))) else (none)) = some r := H
            have A5 := Aside0.mk A50
            clear A50
            by_cases c6 : y276.length + t279.length < 2932031007402
            · rw [if_pos c6] at H
              have LMc6 := Aside0.mk c6
              clear c6
              obtain ⟨y282, hy282⟩ : ∃ y_ : List (S43), y_ = (y276 ++ t279) := ⟨_, rfl⟩
              replace H : (marquetryref16_Flat.l0 k1 l0 y282 (wrap64 (x4_1 + 1))) = some r := by first | (rw [hy282]; with_reducible exact H) | (have H2_ := (Option.bind_some _ _).symm.trans H; rw [hy282]; with_reducible exact H2_) | (have H2_ := (Option.bind_some _ _).symm.trans H; with_reducible exact H2_) | with_reducible exact H | (rw [hy282]; exact H) | exact H
              have Ny282 := Aside0.mk hy282
              clear hy282
              have H' := Aside0.mk H
              clear H
              have p274 : 0 ≤ (x4_1 : Int) := of_decide_eq_true (by first | (with_reducible assumption) | assumption)
              have q274 : x4_1 < (l0.length : Int) := of_decide_eq_true (by first | (with_reducible assumption) | assumption)
              obtain ⟨ad274, A274_5, c274_5, e274, hx274_0, hx274_1, hx274_2, hx274_3, hx274_4, hx274_5, hl274_5, hi274_5⟩ := at_T62 HR0.out x4_1 p274 q274
              cases e274
              replace hx274_0 := (HB.out.cell (World.block_lt_of_cell? w _ hx274_0)).trans hx274_0
              replace hx274_1 := (HB.out.cell (World.block_lt_of_cell? w _ hx274_1)).trans hx274_1
              replace hx274_2 := (HB.out.cell (World.block_lt_of_cell? w _ hx274_2)).trans hx274_2
              replace hx274_3 := (HB.out.cell (World.block_lt_of_cell? w _ hx274_3)).trans hx274_3
              replace hx274_4 := (HB.out.cell (World.block_lt_of_cell? w _ hx274_4)).trans hx274_4
              replace hx274_5 := (HB.out.cell (World.block_lt_of_cell? w _ hx274_5)).trans hx274_5
              have HR274_5 := Aside0.mk hi274_5
              have HC274_5 := Aside0.mk hl274_5
              clear hi274_5 hl274_5
              replace p274 := eq_true p274
              replace q274 := eq_true q274
              go_wp2_with (first | ((with_reducible refine gate_dst (N := 5) rfl ?_); refine box_event ?hg (N := 5) ?hd (cs := #[.string (⟨#[]⟩ : ByteArray), .int .i64 0, .bool false, .int .i64 0, .int .i64 0, .slice none 0 0]) (t := 62) ?hr ?_; (case hd => rfl); (case hg => rfl); (case hr => first | (go_simp; done) | (go_simp; rfl)); intro gb275 hg w7 hbox hb; have n0_ := Aside0.mk (Kd.R_below (by (with_reducible repeat (first | apply Kd.R_alloc | apply Kd.R_drewN | apply Kd.R_drew)); exact HO_3.out) hb); have n1_ := Aside0.mk (below_step (by repeat (first | (with_reducible first | exact HB.out | apply below_alloc | apply pw_below_drewN | apply below_drew1) | exact HB.out)) hb); have n2_ := Aside0.mk (hbox); have n3_ := Aside0.mk ((by rw [hg]; exact (below_size (by repeat (first | (with_reducible first | exact HB.out | apply below_alloc | apply pw_below_drewN | apply below_drew1) | exact HB.out))) : w.heap.size ≤ gb275)); have n4_ := Aside0.mk ((by rw [hg]; exact (below_size (by repeat (first | (with_reducible first | exact HB.out | apply below_alloc | apply pw_below_drewN | apply below_drew1) | exact HB.out))) : w.heap.size ≤ gb275)); clear HO_3; clear HB; have HO_3 := n0_; have HB := n1_; have BK275 := n2_; have GW275 := n3_; have GE275 := n4_; clear n0_ n1_ n2_ n3_ n4_; clear hb hbox hg; have hcz8_0 : w7.cell? ⟨gb275, 0, none⟩ = some (.string (⟨#[]⟩ : ByteArray)) := (blk_cell BK275.out 0).trans rfl; have hcz8_1 : w7.cell? ⟨gb275, 1, none⟩ = some (.int .i64 0) := (blk_cell BK275.out 1).trans rfl; have hcz8_2 : w7.cell? ⟨gb275, 2, none⟩ = some (.bool false) := (blk_cell BK275.out 2).trans rfl; have hcz8_3 : w7.cell? ⟨gb275, 3, none⟩ = some (.int .i64 0) := (blk_cell BK275.out 3).trans rfl; have hcz8_4 : w7.cell? ⟨gb275, 4, none⟩ = some (.int .i64 0) := (blk_cell BK275.out 4).trans rfl; have hcz8_5 : w7.cell? ⟨gb275, 5, none⟩ = some (.slice none 0 0) := (blk_cell BK275.out 5).trans rfl; have hfz8_0 := blk_frozen BK275.out 0; have hfz8_1 := blk_frozen BK275.out 1; have hfz8_2 := blk_frozen BK275.out 2; have hfz8_3 := blk_frozen BK275.out 3; have hfz8_4 := blk_frozen BK275.out 4; have hfz8_5 := blk_frozen BK275.out 5) | ((with_reducible refine gate_builtin (b := .append) (xs := #[.tmp 16, .tmp 29]) rfl ?_); at_builtin; refine Kd.R_append k43 (w0 := w) w.heap.size rfl (.tmp 16) (.tmp 29) 31 43 (.agg #[(.string ⟨#[]⟩), (.int .i64 0), (.int .i64 0), (.int .i64 0), (.int .i64 0)]) 48 rfl Tryd.underlying31 info43 rfl (by decide) (by omega) u3 x3_1 (⟨(rd_T62 l0 x4_1).f0, (rd_T62 l0 x4_1).f1, (((rd_T62 l0 x4_1).f5).length : Int), (rd_T62 l0 x4_1).f3, (rd_T62 l0 x4_1).f4⟩ : S43) [.string ((rd_T62 l0 x4_1).f0), .int .i64 ((rd_T62 l0 x4_1).f1), .int .i64 (((rd_T62 l0 x4_1).f5).length : Int), .int .i64 ((rd_T62 l0 x4_1).f3), .int .i64 ((rd_T62 l0 x4_1).f4)] (fun _ => True) (fun _ => False) rfl (by first | (go_simp; done) | (go_simp; rfl)) ?aP (fun _ hk => hk.elim) ?aF ?aO ?aB ?aS ?aL ?_; (case aP => exact k43_mkM _ _ _ (⟨(rd_T62 l0 x4_1).f0, (rd_T62 l0 x4_1).f1, (((rd_T62 l0 x4_1).f5).length : Int), (rd_T62 l0 x4_1).f3, (rd_T62 l0 x4_1).f4⟩ : S43)); (case aB => exact (by repeat (first | (with_reducible first | exact HB.out | apply below_alloc | apply pw_below_drewN | apply below_drew1 | refine below_set ?_ GE275.out) | exact HB.out))); (case aF => exact (fun _ _ => trivial)); (case aO => exact (by (with_reducible repeat (first | apply Kd.R_alloc | apply Kd.R_drewN | apply Kd.R_drew)); exact Kd.R_mono (Kd.R_far (p := ⟨gb275, 5, none⟩) (Kd.R_far (p := ⟨gb275, 4, none⟩) (Kd.R_far (p := ⟨gb275, 3, none⟩) (Kd.R_far (p := ⟨gb275, 2, none⟩) (Kd.R_far (p := ⟨gb275, 1, none⟩) (Kd.R_far (p := ⟨gb275, 0, none⟩) (Kd.R_types HO_3.out BK275.out (by decide)) (fun _ hk => hk.2) (.string ((rd_T62 l0 x4_1).f0))) (fun _ hk => hk.2) (.int .i64 ((rd_T62 l0 x4_1).f1))) (fun _ hk => hk.2) (.bool ((rd_T62 l0 x4_1).f2))) (fun _ hk => hk.2) (.int .i64 ((rd_T62 l0 x4_1).f3))) (fun _ hk => hk.2) (.int .i64 ((rd_T62 l0 x4_1).f4))) (fun _ hk => hk.2) (.slice A274_5 ((rd_T62 l0 x4_1).f5).length c274_5)) (fun _ hk => trivial))); (case aS => exact (below_size (by repeat (first | (with_reducible first | exact HB.out | apply below_alloc | apply pw_below_drewN | apply below_drew1 | refine below_set ?_ GE275.out) | exact HB.out)))); (case aL => have := LMc4.out; omega); intro v277 w9 ho hb hg hat; rw [← Ny276.out] at ho; have n0_ := Aside0.mk (blk_grown (g := gb275) (o := .cells #[.string ((rd_T62 l0 x4_1).f0), .int .i64 ((rd_T62 l0 x4_1).f1), .bool ((rd_T62 l0 x4_1).f2), .int .i64 ((rd_T62 l0 x4_1).f3), .int .i64 ((rd_T62 l0 x4_1).f4), .slice A274_5 ((rd_T62 l0 x4_1).f5).length c274_5] 62 (0, 0)) (by (with_reducible repeat (first | refine blk_drewN ?_ _ | refine blk_drew ?_ | refine blk_alloc ?_ _)); refine blk_put (cs := #[.string ((rd_T62 l0 x4_1).f0), .int .i64 ((rd_T62 l0 x4_1).f1), .bool ((rd_T62 l0 x4_1).f2), .int .i64 ((rd_T62 l0 x4_1).f3), .int .i64 ((rd_T62 l0 x4_1).f4), .slice none 0 0]) ?_ 5 _ rfl; (with_reducible repeat (first | refine blk_drewN ?_ _ | refine blk_drew ?_ | refine blk_alloc ?_ _)); refine blk_put (cs := #[.string ((rd_T62 l0 x4_1).f0), .int .i64 ((rd_T62 l0 x4_1).f1), .bool ((rd_T62 l0 x4_1).f2), .int .i64 ((rd_T62 l0 x4_1).f3), .int .i64 0, .slice none 0 0]) ?_ 4 _ rfl; (with_reducible repeat (first | refine blk_drewN ?_ _ | refine blk_drew ?_ | refine blk_alloc ?_ _)); refine blk_put (cs := #[.string ((rd_T62 l0 x4_1).f0), .int .i64 ((rd_T62 l0 x4_1).f1), .bool ((rd_T62 l0 x4_1).f2), .int .i64 0, .int .i64 0, .slice none 0 0]) ?_ 3 _ rfl; (with_reducible repeat (first | refine blk_drewN ?_ _ | refine blk_drew ?_ | refine blk_alloc ?_ _)); refine blk_put (cs := #[.string ((rd_T62 l0 x4_1).f0), .int .i64 ((rd_T62 l0 x4_1).f1), .bool false, .int .i64 0, .int .i64 0, .slice none 0 0]) ?_ 2 _ rfl; (with_reducible repeat (first | refine blk_drewN ?_ _ | refine blk_drew ?_ | refine blk_alloc ?_ _)); refine blk_put (cs := #[.string ((rd_T62 l0 x4_1).f0), .int .i64 0, .bool false, .int .i64 0, .int .i64 0, .slice none 0 0]) ?_ 1 _ rfl; (with_reducible repeat (first | refine blk_drewN ?_ _ | refine blk_drew ?_ | refine blk_alloc ?_ _)); refine blk_put (cs := #[.string (⟨#[]⟩ : ByteArray), .int .i64 0, .bool false, .int .i64 0, .int .i64 0, .slice none 0 0]) ?_ 0 _ rfl; (with_reducible repeat (first | refine blk_drewN ?_ _ | refine blk_drew ?_ | refine blk_alloc ?_ _)); exact BK275.out) hg (Kd.R_ne HO_3.out BK275.out (by decide))); have n1_ := Aside0.mk (hb); have n2_ := Aside0.mk (ho); clear BK275; clear HB; clear HO_3; have BK275 := n0_; have HB := n1_; have HO278 := n2_; clear n0_ n1_ n2_; clear ho hb hg hat; have hcz10_0 : w9.cell? ⟨gb275, 0, none⟩ = some (.string ((rd_T62 l0 x4_1).f0)) := (blk_cell BK275.out 0).trans rfl; have hcz10_1 : w9.cell? ⟨gb275, 1, none⟩ = some (.int .i64 ((rd_T62 l0 x4_1).f1)) := (blk_cell BK275.out 1).trans rfl; have hcz10_2 : w9.cell? ⟨gb275, 2, none⟩ = some (.bool ((rd_T62 l0 x4_1).f2)) := (blk_cell BK275.out 2).trans rfl; have hcz10_3 : w9.cell? ⟨gb275, 3, none⟩ = some (.int .i64 ((rd_T62 l0 x4_1).f3)) := (blk_cell BK275.out 3).trans rfl; have hcz10_4 : w9.cell? ⟨gb275, 4, none⟩ = some (.int .i64 ((rd_T62 l0 x4_1).f4)) := (blk_cell BK275.out 4).trans rfl; have hcz10_5 : w9.cell? ⟨gb275, 5, none⟩ = some (.slice A274_5 ((rd_T62 l0 x4_1).f5).length c274_5) := (blk_cell BK275.out 5).trans rfl; have hfz10_0 := blk_frozen BK275.out 0; have hfz10_1 := blk_frozen BK275.out 1; have hfz10_2 := blk_frozen BK275.out 2; have hfz10_3 := blk_frozen BK275.out 3; have hfz10_4 := blk_frozen BK275.out 4; have hfz10_5 := blk_frozen BK275.out 5) | ((with_reducible refine gate_callee (f := 40) rfl ?_); refine goesL_ (some 34) rfl rfl Tryd.func40 (by kernel_rfl) rfl #[.slice A274_5 ((rd_T62 l0 x4_1).f5).length c274_5] rfl (by (try simp only [List.map_toArray, List.map_cons, List.map_nil]); first | done | rfl | (simp only [List.length_drop, List.length_take]; rfl)) ?_; (with_reducible refine (ih k1 (by have := HK1.out; omega) _ _ ((rd_T62 l0 x4_1).f5) t279 _ ?side1 ?side2 A5.out).mono ?_); (case side1 => repeat (first | exact (Kd.C_below HR274_5.out HB.out) | (with_reducible refine Kd.C_alloc ?_ _) | (with_reducible refine Kd.C_drewN ?_ _) | (with_reducible refine Kd.C_drew ?_))); (case side2 => exact HC274_5.out); rintro e w11 ⟨v280, rfl, ho0, hb⟩; refine ⟨_, rfl, ?_⟩; have n0_ := Aside0.mk (Kd.R_elder' (by (with_reducible repeat (first | apply Kd.R_alloc | apply Kd.R_drewN | apply Kd.R_drew)); exact HO278.out) (Kd.R_base ho0) hb); have n1_ := Aside0.mk (Kd.R_lower (Kd.R_new' ho0 (Kd.R_lt (by (with_reducible repeat (first | apply Kd.R_alloc | apply Kd.R_drewN | apply Kd.R_drew)); exact HO278.out))) (below_size (by repeat (first | (with_reducible first | exact HB.out | apply below_alloc | apply pw_below_drewN | apply below_drew1 | refine below_set ?_ GE275.out) | exact HB.out)))); have n2_ := Aside0.mk (blk_below (g := gb275) (o := .cells #[.string ((rd_T62 l0 x4_1).f0), .int .i64 ((rd_T62 l0 x4_1).f1), .bool ((rd_T62 l0 x4_1).f2), .int .i64 ((rd_T62 l0 x4_1).f3), .int .i64 ((rd_T62 l0 x4_1).f4), .slice A274_5 ((rd_T62 l0 x4_1).f5).length c274_5] 62 (0, 0)) (by (with_reducible repeat (first | refine blk_drewN ?_ _ | refine blk_drew ?_ | refine blk_alloc ?_ _)); exact BK275.out) hb); have n3_ := Aside0.mk (below_step (by repeat (first | (with_reducible first | exact HB.out | apply below_alloc | apply pw_below_drewN | apply below_drew1 | refine below_set ?_ GE275.out) | exact HB.out)) hb); clear HO278; clear BK275; clear HB; have HO278 := n0_; have HO281 := n1_; have BK275 := n2_; have HB := n3_; clear n0_ n1_ n2_ n3_; (try clear hb); (try clear hb2); (try clear hk); (try clear hi); (try clear ho0); obtain ⟨Ao13, co13, eo13⟩ := Kd.R_slice HO281.out; subst eo13) | ((with_reducible refine gate_builtin (b := .append) (xs := #[.tmp 31, .tmp 34]) rfl ?_); at_builtin; refine Kd.R_append_rows k43 (w0 := w) w.heap.size rfl (.tmp 31) (.tmp 34) 31 43 (.agg #[(.string ⟨#[]⟩), (.int .i64 0), (.int .i64 0), (.int .i64 0), (.int .i64 0)]) 48 rfl Tryd.underlying31 info43 rfl (by decide) (by omega) v277 y276 t279 _ _ _ (fun k_ => some k_ ≠ (.slice Ao13 t279.length co13 : Value).ownBlock) (fun _ => False) rfl rfl ?aO ?aR (fun _ _ h => h) (fun _ h => h.elim) ?aF ?aB ?aS ?aL ?_; (case aR => repeat (first | exact (Kd.R_reads' HO281.out).2.2 | (with_reducible refine Kd.C_alloc ?_ _) | (with_reducible refine Kd.C_drewN ?_ _) | (with_reducible refine Kd.C_drew ?_))); (case aB => exact (by repeat (first | (with_reducible first | exact HB.out | apply below_alloc | apply pw_below_drewN | apply below_drew1 | refine below_set ?_ GE275.out) | exact HB.out))); (case aF => exact (fun k_ hk => Kd.fresh' (Kd.R_lt (by (with_reducible repeat (first | apply Kd.R_alloc | apply Kd.R_drewN | apply Kd.R_drew)); exact HO281.out)) k_ hk)); (case aO => exact (by (with_reducible repeat (first | apply Kd.R_alloc | apply Kd.R_drewN | apply Kd.R_drew)); exact Kd.R_mono HO278.out (fun _ hk => hk.2))); (case aS => exact (below_size (by repeat (first | (with_reducible first | exact HB.out | apply below_alloc | apply pw_below_drewN | apply below_drew1 | refine below_set ?_ GE275.out) | exact HB.out)))); (case aL => have := LMc6.out; omega); intro v283 w12 ho hb hg hat; rw [← Ny282.out] at ho; have n0_ := Aside0.mk (blk_grown (g := gb275) (o := .cells #[.string ((rd_T62 l0 x4_1).f0), .int .i64 ((rd_T62 l0 x4_1).f1), .bool ((rd_T62 l0 x4_1).f2), .int .i64 ((rd_T62 l0 x4_1).f3), .int .i64 ((rd_T62 l0 x4_1).f4), .slice A274_5 ((rd_T62 l0 x4_1).f5).length c274_5] 62 (0, 0)) (by (with_reducible repeat (first | refine blk_drewN ?_ _ | refine blk_drew ?_ | refine blk_alloc ?_ _)); exact BK275.out) hg (Kd.R_ne HO278.out BK275.out (by decide))); have n1_ := Aside0.mk (Kd.R_after (ok := (fun _ => True)) (by (with_reducible repeat (first | apply Kd.R_alloc | apply Kd.R_drewN | apply Kd.R_drew)); exact HO281.out) hg hat); have n2_ := Aside0.mk (hb); have n3_ := Aside0.mk (ho); clear BK275; clear HO281; clear HB; clear HO278; have BK275 := n0_; have HO281 := n1_; have HB := n2_; have HO284 := n3_; clear n0_ n1_ n2_ n3_; clear ho hb hg hat))
              go_roundg k1
              case measure => have := HK1.out; omega
              case rel => exact ⟨(y282), (wrap64 (x4_1 + 1)), (by first | rfl | (simp; done) | (simp [*]; done)), H', ⟨by have := HK1.out; omega⟩, ⟨by (with_reducible repeat (first | apply Kd.R_alloc | apply Kd.R_drewN | apply Kd.R_drew)); exact Kd.R_mono HO284.out (fun _ hk => trivial)⟩, ⟨by repeat (first | (with_reducible first | exact HB.out | apply below_alloc | apply pw_below_drewN | apply below_drew1 | refine below_set ?_ GE275.out) | exact HB.out)⟩⟩
            · rw [if_neg c6] at H
              exact absurd H (by simp)
          · rw [if_neg c4] at H
            exact absurd H (by simp)
        · rw [if_neg c3] at H
          exact absurd H (by simp)
      · rw [if_neg c2] at H
        have c2b0 : decide (x4_1 < (l0.length : Int)) = false := decide_eq_false c2
        clear c2
        obtain rfl := Option.some.inj H
        go_wp2
        go_ret
        exact ⟨_, by first | rfl | (simp [errW_none, errW_some] <;> rfl) | (simp [*, errW_none, errW_some] <;> rfl), by (with_reducible repeat (first | apply Kd.R_alloc | apply Kd.R_drewN | apply Kd.R_drew)); exact HO_3.out, by repeat (first | (with_reducible first | exact HB.out | apply below_alloc | apply pw_below_drewN | apply below_drew1) | exact HB.out)⟩

end Go.Proofs.YtjdjlccdidfgoaaDoor.H
end
section
-- Laid by this session's hprint.py, out of the kit's print.py and texts of the session. Not trusted: Lean checks it.
namespace Go.Proofs.YtjdjlccdidfgoaaDoor.H
open Go.RowKit Go.Proofs.YtjdjlccdidfgoaaDoorW.PrintWords Go.Proofs.YtjdjlccdidfgoaaDoorW.PrintLast Go.Proofs.YtjdjlccdidfgoaaDoorW.PrintMore
attribute [local go_sem] max2_int min2_int max_two min_two max_three min_three max_four min_four   -- for this text's walks alone
set_option linter.unusedVariables false
set_option linter.unusedSimpArgs false

/-! ### marquetryref16_Whole: function 17 -/
def marquetryref16_Whole.f (k : Nat) (a0_0 : ByteArray) (l0_1 : List (S62)) : Option ((List (S43))) := (some (([(⟨a0_0, 0, (l0_1.length : Int), 0, 0⟩ : S43)] : List (S43)) : List (S43))).bind fun y286 => ((marquetryref16_Flat.f k l0_1).bind fun t289 => (if y286.length + t289.length < 2932031007402 then (some (y286 ++ t289)) else (none)))
def marquetryref16_Whole.T1 : Bool × List (List Nat × List Nat) := (true, [([], []), ([0], [0]), ([], []), ([2], [2]), ([3], [3]), ([1, 4], [1, 4]), ([5], [5]), ([], []), ([7], [7]), ([8], [8]), ([6, 9, 9], [6, 9]), ([10, 10, 0, 1, 2, 3, 4, 5, 6, 7, 8, 9, 10], [10])])
def marquetryref16_Whole.B1 : List Nat := [0, 1, 0, 4, 12, 31, 63, 0, 128, 384, 1023, 2047]
theorem marquetryref16_Whole.tab1 : rtab .any (opsOf Tryd.f17 1) = marquetryref16_Whole.T1 := by kernel_rfl
theorem marquetryref16_Whole.bits1 : waitsOk marquetryref16_Whole.T1.2 marquetryref16_Whole.B1 = true := by kernel_rfl
set_option maxHeartbeats 8000000 in
set_option maxRecDepth 100000 in
theorem marquetryref16_Whole.calls (k : Nat) (a0_0 : ByteArray) (A0_1 : Option Addr) (c0_1 : Nat) (l0_1 : List (S62)) (r : List (S43)) (w : World) (hr0_1 : Kd.C k62 w A0_1 l0_1.length l0_1) (hc0_1 : l0_1.length ≤ c0_1) (h : marquetryref16_Whole.f k a0_0 l0_1 = some r) :
    Calls Tryd.prog 17 #[.agg #[.string a0_0, .slice A0_1 l0_1.length c0_1]] w fun e w' => ∃ v0_ : Value, e = .returned (v0_) ∧ Kd.R k43 43 w' w.heap.size (fun _ => True) v0_ r ∧ Below w.heap.size w w' := by
  have hu24 := Tryd.underlying24
  have hu43 := Tryd.underlying43
  have HR0_1 := Aside0.mk hr0_1
  have HC0_1 := Aside0.mk hc0_1
  clear hr0_1 hc0_1
  have HB := Aside0.mk (Below.refl w.heap.size w)
  have H : ((some (([(⟨a0_0, 0, (l0_1.length : Int), 0, 0⟩ : S43)] : List (S43)) : List (S43))).bind fun y286 => ((marquetryref16_Flat.f k l0_1).bind fun t289 => (if y286.length + t289.length < 2932031007402 then (some (y286 ++ t289)) else (none)))) = some r := h
  clear h
  obtain ⟨y286, hy286⟩ : ∃ y_ : List (S43), y_ = (([(⟨a0_0, 0, (l0_1.length : Int), 0, 0⟩ : S43)] : List (S43))) := ⟨_, rfl⟩
  replace H : ((marquetryref16_Flat.f k l0_1).bind fun t289 => (if y286.length + t289.length < 2932031007402 then (some (y286 ++ t289)) else (none))) = some r := by first | (rw [hy286]; with_reducible exact H) | (have H2_ := (Option.bind_some _ _).symm.trans H; rw [hy286]; with_reducible exact H2_) | (have H2_ := (Option.bind_some _ _).symm.trans H; with_reducible exact H2_) | with_reducible exact H | (rw [hy286]; exact H) | exact H
  have Ny286 := Aside0.mk hy286
  clear hy286
  replace H := Option.bind_eq_some_iff.mp H
  obtain ⟨t289, A20, H⟩ := H
  replace H : (if y286.length + t289.length < 2932031007402 then (some (y286 ++ t289)) else (none)) = some r := H
  have A2 := Aside0.mk A20
  clear A20
  by_cases c3 : y286.length + t289.length < 2932031007402
  · rw [if_pos c3] at H
    have LMc3 := Aside0.mk c3
    clear c3
    obtain ⟨y292, hy292⟩ : ∃ y_ : List (S43), y_ = (y286 ++ t289) := ⟨_, rfl⟩
    replace H : (some y292) = some r := by first | (rw [hy292]; with_reducible exact H) | (have H2_ := (Option.bind_some _ _).symm.trans H; rw [hy292]; with_reducible exact H2_) | (have H2_ := (Option.bind_some _ _).symm.trans H; with_reducible exact H2_) | with_reducible exact H | (rw [hy292]; exact H) | exact H
    have Ny292 := Aside0.mk hy292
    clear hy292
    obtain rfl := Option.some.inj H
    go_enter Tryd.func17, Tryd.ntmps17
    try go_wp2_with (first | ((with_reducible refine gate_dst (N := 1) rfl ?_); refine box_event ?hg (N := 1) ?hd (cs := #[.string a0_0, .slice A0_1 l0_1.length c0_1]) (t := 24) ?hr ?_; (case hd => rfl); (case hg => rfl); (case hr => first | (go_simp; done) | (go_simp; rfl)); intro gb285 hg w4 hbox hb; have n0_ := Aside0.mk (below_step (by repeat (first | (with_reducible first | exact HB.out | apply below_alloc | apply pw_below_drewN | apply below_drew1) | exact HB.out)) hb); have n1_ := Aside0.mk (hbox); have n2_ := Aside0.mk ((by rw [hg]; exact (below_size (by repeat (first | (with_reducible first | exact HB.out | apply below_alloc | apply pw_below_drewN | apply below_drew1) | exact HB.out))) : w.heap.size ≤ gb285)); have n3_ := Aside0.mk ((by rw [hg]; exact (below_size (by repeat (first | (with_reducible first | exact HB.out | apply below_alloc | apply pw_below_drewN | apply below_drew1) | exact HB.out))) : w.heap.size ≤ gb285)); clear HB; have HB := n0_; have BK285 := n1_; have GW285 := n2_; have GE285 := n3_; clear n0_ n1_ n2_ n3_; clear hb hbox hg))
    have n0_ := Aside0.mk (blk_drew BK285.out)
    have n1_ := Aside0.mk (below_drew1 HB.out)
    clear BK285
    clear HB
    have BK285 := n0_
    have HB := n1_
    clear n0_ n1_
    refine start_ (n := 12) (S := fun w' => w'.cell? ⟨gb285, 0, none⟩ = some (.string a0_0) ∧ w'.cell? ⟨gb285, 1, none⟩ = some (.slice A0_1 l0_1.length c0_1)) (ds := []) #[false, false, false, false, false, false, false, false, false, false, false, false] (by kernel_rfl) rfl rfl ⟨(blk_cell BK285.out 0).trans rfl, (blk_cell BK285.out 1).trans rfl⟩ (fun hHeld => ?_); refine with_tabW marquetryref16_Whole.tab1 marquetryref16_Whole.bits1 (fun HT_ HW_ => ?_)
    generalize w4.drew = w5 at BK285 HB hHeld ⊢
    refine pure_ (i := 0) (N := some 3) (v := ?_) (a' := ?_) #[true, false, false, false, false, false, false, false, false, false, false, false] rfl rfl (any_of HT_.out (by kernel_rfl)) (fun _ _ _ h => h) (Or.inl ⟨by rfl, ?_⟩) ?_ ?_
    rotate_left
    · intro w'
      go_simp
      with_reducible rfl
    rotate_left
    · simp only [Act.put, List.setIfInBounds_toArray, List.set_cons_zero, List.set_cons_succ, i64_w, i32_w]
      rfl
    refine pure_ (i := 2) (N := some 5) (v := ?_) (a' := ?_) #[true, false, true, false, false, false, false, false, false, false, false, false] rfl rfl (any_of HT_.out (by kernel_rfl)) (fun _ _ _ h => h) (Or.inl ⟨by rfl, ?_⟩) ?_ ?_
    rotate_left
    · intro w'
      go_simp
      with_reducible rfl
    rotate_left
    · simp only [Act.put, List.setIfInBounds_toArray, List.set_cons_zero, List.set_cons_succ, i64_w, i32_w]
      rfl
    refine pure_ (i := 7) (N := some 10) (v := ?_) (a' := ?_) #[true, false, true, false, false, false, false, true, false, false, false, false] rfl rfl (any_of HT_.out (by kernel_rfl)) (fun _ _ _ h => h) (Or.inl ⟨by rfl, ?_⟩) ?_ ?_
    rotate_left
    · intro w'
      go_simp
      with_reducible rfl
    rotate_left
    · simp only [Act.put, List.setIfInBounds_toArray, List.set_cons_zero, List.set_cons_succ, i64_w, i32_w]
      rfl
    refine take_ (i := 1) (N := some 4) (v := ?_) (a' := ?_) #[true, true, true, false, false, false, false, true, false, false, false, false] rfl rfl (take_ofW HT_.out HW_.out (by kernel_rfl)) (fun _ _ _ h => h) (Or.inl ⟨by rfl, ?_⟩) hHeld ?_ ?_
    rotate_left
    · rintro w' ⟨s0, s1⟩
      go_simp
      with_reducible rfl
    rotate_left
    · simp only [Act.put, List.setIfInBounds_toArray, List.set_cons_zero, List.set_cons_succ, i64_w, i32_w]
      rfl
    refine take_ (i := 3) (N := some 6) (v := ?_) (a' := ?_) #[true, true, true, true, false, false, false, true, false, false, false, false] rfl rfl (take_ofW HT_.out HW_.out (by kernel_rfl)) (fun _ _ _ h => h) (Or.inl ⟨by rfl, ?_⟩) hHeld ?_ ?_
    rotate_left
    · rintro w' ⟨s0, s1⟩
      go_simp
      with_reducible rfl
    rotate_left
    · simp only [Act.put, List.setIfInBounds_toArray, List.set_cons_zero, List.set_cons_succ, i64_w, i32_w]
      rfl
    refine pure_ (i := 4) (N := some 7) (v := ?_) (a' := ?_) #[true, true, true, true, true, false, false, true, false, false, false, false] rfl rfl (any_of HT_.out (by kernel_rfl)) (fun _ _ _ h => h) (Or.inl ⟨by rfl, ?_⟩) ?_ ?_
    rotate_left
    · intro w'
      go_simp
      with_reducible rfl
    rotate_left
    · simp only [Act.put, List.setIfInBounds_toArray, List.set_cons_zero, List.set_cons_succ, i64_w, i32_w]
      rfl
    refine pure_ (i := 5) (N := some 8) (v := ?_) (a' := ?_) #[true, true, true, true, true, true, false, true, false, false, false, false] rfl rfl (any_of HT_.out (by kernel_rfl)) (fun _ _ _ h => h) (Or.inl ⟨by rfl, ?_⟩) ?_ ?_
    rotate_left
    · intro w'
      go_simp
      with_reducible rfl
    rotate_left
    · simp only [Act.put, List.setIfInBounds_toArray, List.set_cons_zero, List.set_cons_succ, i64_w, i32_w]
      rfl
    refine take_ (i := 8) (N := some 11) (v := ?_) (a' := ?_) #[true, true, true, true, true, true, false, true, true, false, false, false] rfl rfl (take_ofW HT_.out HW_.out (by kernel_rfl)) (fun _ _ _ h => h) (Or.inl ⟨by rfl, ?_⟩) hHeld ?_ ?_
    rotate_left
    · rintro w' ⟨s0, s1⟩
      go_simp
      with_reducible rfl
    rotate_left
    · simp only [Act.put, List.setIfInBounds_toArray, List.set_cons_zero, List.set_cons_succ, i64_w, i32_w]
      rfl
    refine join_ (σ := Value × Value) 2 #[true, true, true, true, true, true, true, true, true, true, false, false] (fun s_ => [(9, s_.1), (12, s_.2)]) (fun s_ w' => (w'.cell? ⟨gb285, 0, none⟩ = some (.string a0_0) ∧ w'.cell? ⟨gb285, 1, none⟩ = some (.slice A0_1 l0_1.length c0_1)) ∧ (Kd.R k43 43 w' w.heap.size (fun k_ => some k_ ≠ (s_.2 : Value).ownBlock) s_.1 y286) ∧ (Kd.R k43 43 w' w.heap.size (fun k_ => some k_ ≠ (s_.1 : Value).ownBlock) s_.2 t289) ∧ (w'.heap[gb285]? = some (.cells #[.string a0_0, .slice A0_1 l0_1.length c0_1] 24 (0, 0))) ∧ (Below w.heap.size w w')) ?_ ?_
    rotate_left
    · intro hCont
      refine two_ (i := 6) (j := 9) (Ni := some 9) (Nj := some 12) #[true, true, true, true, true, true, true, true, true, false, false, false] #[true, true, true, true, true, true, false, true, true, true, false, false] rfl rfl rfl rfl (two_of HT_.out (by kernel_rfl)) (by decide) (by decide) (fun K hK => ?_) (fun K hK => ?_)
      · skip
        refine Kd.R_lit_step k43 _ 43 ?hg (N := 9) ?hd (xs := ([(⟨a0_0, 0, (l0_1.length : Int), 0, 0⟩ : S43)] : List (S43))) (inner := [.string a0_0, .int .i64 0, .int .i64 (l0_1.length : Int), .int .i64 0, .int .i64 0]) (ok := fun _ => True) (okp := fun _ => True) ?hr ?hp (fun _ hk => hk) trivial (Below.refl _ _) (Nat.le_refl _) (by simp) ?_; (case hd => rfl); (case hg => rfl); (case hr => first | (go_simp; done) | (go_simp; rfl)); (case hp => exact (Reps.c5 (show Kd.M k43 _ _ _ (⟨a0_0, 0, (l0_1.length : Int), 0, 0⟩ : S43) [.string a0_0, .int .i64 0, .int .i64 (l0_1.length : Int), .int .i64 0, .int .i64 0] from (k43_mkM _ _ _ (⟨a0_0, 0, (l0_1.length : Int), 0, 0⟩ : S43) )) (Reps.none _ _)))
        intro v287 w6 ho7 hb hg_ hnew_
        clear hg_ hnew_
        (first | rw [← Ny286.out] at ho7 | (simp only [Int.reduceToNat] at ho7; rw [← Ny286.out] at ho7))
        have n0_ := Aside0.mk (Kd.R_lower ho7 (below_size (by repeat (first | (with_reducible first | exact HB.out | apply below_alloc | apply pw_below_drewN | apply below_drew1 | refine below_set ?_ GE285.out) | exact HB.out))))
        have n1_ := Aside0.mk (blk_below (g := gb285) (o := .cells #[.string a0_0, .slice A0_1 l0_1.length c0_1] 24 (0, 0)) (by (with_reducible repeat (first | refine blk_drewN ?_ _ | refine blk_drew ?_ | refine blk_alloc ?_ _)); exact BK285.out) hb)
        have n2_ := Aside0.mk (below_step (by repeat (first | (with_reducible first | exact HB.out | apply below_alloc | apply pw_below_drewN | apply below_drew1 | refine below_set ?_ GE285.out) | exact HB.out)) hb)
        clear BK285
        clear HB
        have HO288 := n0_
        have BK285 := n1_
        have HB := n2_
        clear n0_ n1_ n2_
        clear hb ho7
        refine hK.out _ _ ⟨(blk_cell BK285.out 0).trans rfl, (blk_cell BK285.out 1).trans rfl⟩ (fun hHeld => ?_)
        clear hK K
        refine norm_ (a' := ?_) ?_ ?_
        rotate_left
        · show Act.put _ (some 9) _ = _
          simp only [Act.put, List.setIfInBounds_toArray, List.set_cons_zero, List.set_cons_succ, i64_w, i32_w]
          rfl
        refine one_ (i := 9) (N := some 12) #[true, true, true, true, true, true, true, true, true, true, false, false] rfl rfl (one_of HT_.out (by kernel_rfl)) (by decide) (fun K hK => ?_)
        refine goes_ Tryd.func40 (by kernel_rfl) rfl #[.slice A0_1 l0_1.length c0_1] (by rfl) rfl rfl (by (try simp only [List.map_toArray, List.map_cons, List.map_nil]); first | done | rfl | (simp only [List.length_drop, List.length_take]; rfl)) ?_
        with_reducible refine (marquetryref16_Flat.calls k _ _ l0_1 t289 _ ?side1 ?side2 A2.out).mono ?_
        (case side1 => repeat (first | exact (Kd.C_below HR0_1.out HB.out) | (with_reducible refine Kd.C_alloc ?_ _) | (with_reducible refine Kd.C_drewN ?_ _) | (with_reducible refine Kd.C_drew ?_)))
        (case side2 => exact HC0_1.out)
        rintro e w8 ⟨v290, rfl, ho0, hb⟩
        refine ⟨_, rfl, ?_⟩
        have n0_ := Aside0.mk (Kd.R_elder' (by (with_reducible repeat (first | apply Kd.R_alloc | apply Kd.R_drewN | apply Kd.R_drew)); exact HO288.out) (Kd.R_base ho0) hb)
        have n1_ := Aside0.mk (Kd.R_lower (Kd.R_new' ho0 (Kd.R_lt (by (with_reducible repeat (first | apply Kd.R_alloc | apply Kd.R_drewN | apply Kd.R_drew)); exact HO288.out))) (below_size (by repeat (first | (with_reducible first | exact HB.out | apply below_alloc | apply pw_below_drewN | apply below_drew1 | refine below_set ?_ GE285.out) | exact HB.out))))
        have n2_ := Aside0.mk (blk_below (g := gb285) (o := .cells #[.string a0_0, .slice A0_1 l0_1.length c0_1] 24 (0, 0)) (by (with_reducible repeat (first | refine blk_drewN ?_ _ | refine blk_drew ?_ | refine blk_alloc ?_ _)); exact BK285.out) hb)
        have n3_ := Aside0.mk (below_step (by repeat (first | (with_reducible first | exact HB.out | apply below_alloc | apply pw_below_drewN | apply below_drew1 | refine below_set ?_ GE285.out) | exact HB.out)) hb)
        clear HO288
        clear BK285
        clear HB
        have HO288 := n0_
        have HO291 := n1_
        have BK285 := n2_
        have HB := n3_
        clear n0_ n1_ n2_ n3_
        (try clear hb)
        (try clear hb2)
        (try clear hk)
        (try clear hi)
        (try clear ho0)
        refine hK.out _ _ ⟨(blk_cell BK285.out 0).trans rfl, (blk_cell BK285.out 1).trans rfl⟩ (fun hHeld => ?_)
        clear hK K
        refine norm_ (a' := ?_) ?_ ?_
        rotate_left
        · show Act.put _ (some 12) _ = _
          simp only [Act.put, List.setIfInBounds_toArray, List.set_cons_zero, List.set_cons_succ, i64_w, i32_w]
          rfl
        exact norm_ (by simp only [putAll, Act.put, List.setIfInBounds_toArray, List.set_cons_zero, List.set_cons_succ]) (hCont (v287, v290) _ ⟨hHeld, (by (with_reducible repeat (first | apply Kd.R_alloc | apply Kd.R_drewN | apply Kd.R_drew)); exact Kd.R_mono HO288.out (fun _ hk => hk.2)), (by (with_reducible repeat (first | apply Kd.R_alloc | apply Kd.R_drewN | apply Kd.R_drew)); exact Kd.R_mono HO291.out (fun _ hk => hk.2)), (by (with_reducible repeat (first | refine blk_drewN ?_ _ | refine blk_drew ?_ | refine blk_alloc ?_ _)); exact BK285.out), (by repeat (first | (with_reducible first | exact HB.out | apply below_alloc | apply pw_below_drewN | apply below_drew1 | refine below_set ?_ GE285.out) | exact HB.out))⟩)
      · skip
        refine goes_ Tryd.func40 (by kernel_rfl) rfl #[.slice A0_1 l0_1.length c0_1] (by rfl) rfl rfl (by (try simp only [List.map_toArray, List.map_cons, List.map_nil]); first | done | rfl | (simp only [List.length_drop, List.length_take]; rfl)) ?_
        with_reducible refine (marquetryref16_Flat.calls k _ _ l0_1 t289 _ ?side1 ?side2 A2.out).mono ?_
        (case side1 => repeat (first | exact (Kd.C_below HR0_1.out HB.out) | (with_reducible refine Kd.C_alloc ?_ _) | (with_reducible refine Kd.C_drewN ?_ _) | (with_reducible refine Kd.C_drew ?_)))
        (case side2 => exact HC0_1.out)
        rintro e w6 ⟨v290, rfl, ho0, hb⟩
        refine ⟨_, rfl, ?_⟩
        have n0_ := Aside0.mk (Kd.R_lower ho0 (below_size (by repeat (first | (with_reducible first | exact HB.out | apply below_alloc | apply pw_below_drewN | apply below_drew1 | refine below_set ?_ GE285.out) | exact HB.out))))
        have n1_ := Aside0.mk (blk_below (g := gb285) (o := .cells #[.string a0_0, .slice A0_1 l0_1.length c0_1] 24 (0, 0)) (by (with_reducible repeat (first | refine blk_drewN ?_ _ | refine blk_drew ?_ | refine blk_alloc ?_ _)); exact BK285.out) hb)
        have n2_ := Aside0.mk (below_step (by repeat (first | (with_reducible first | exact HB.out | apply below_alloc | apply pw_below_drewN | apply below_drew1 | refine below_set ?_ GE285.out) | exact HB.out)) hb)
        clear BK285
        clear HB
        have HO291 := n0_
        have BK285 := n1_
        have HB := n2_
        clear n0_ n1_ n2_
        (try clear hb)
        (try clear hb2)
        (try clear hk)
        (try clear hi)
        (try clear ho0)
        refine hK.out _ _ ⟨(blk_cell BK285.out 0).trans rfl, (blk_cell BK285.out 1).trans rfl⟩ (fun hHeld => ?_)
        clear hK K
        refine norm_ (a' := ?_) ?_ ?_
        rotate_left
        · show Act.put _ (some 12) _ = _
          simp only [Act.put, List.setIfInBounds_toArray, List.set_cons_zero, List.set_cons_succ, i64_w, i32_w]
          rfl
        refine one_ (i := 6) (N := some 9) #[true, true, true, true, true, true, true, true, true, true, false, false] rfl rfl (one_of HT_.out (by kernel_rfl)) (by decide) (fun K hK => ?_)
        refine Kd.R_lit_step k43 _ 43 ?hg (N := 9) ?hd (xs := ([(⟨a0_0, 0, (l0_1.length : Int), 0, 0⟩ : S43)] : List (S43))) (inner := [.string a0_0, .int .i64 0, .int .i64 (l0_1.length : Int), .int .i64 0, .int .i64 0]) (ok := fun _ => True) (okp := fun _ => True) ?hr ?hp (fun _ hk => hk) trivial (Below.refl _ _) (Nat.le_refl _) (by simp) ?_; (case hd => rfl); (case hg => rfl); (case hr => first | (go_simp; done) | (go_simp; rfl)); (case hp => exact (Reps.c5 (show Kd.M k43 _ _ _ (⟨a0_0, 0, (l0_1.length : Int), 0, 0⟩ : S43) [.string a0_0, .int .i64 0, .int .i64 (l0_1.length : Int), .int .i64 0, .int .i64 0] from (k43_mkM _ _ _ (⟨a0_0, 0, (l0_1.length : Int), 0, 0⟩ : S43) )) (Reps.none _ _)))
        intro v287 w7 ho8 hb hg_ hnew_
        clear hg_ hnew_
        (first | rw [← Ny286.out] at ho8 | (simp only [Int.reduceToNat] at ho8; rw [← Ny286.out] at ho8))
        have n0_ := Aside0.mk (Kd.R_elder' (by (with_reducible repeat (first | apply Kd.R_alloc | apply Kd.R_drewN | apply Kd.R_drew)); exact HO291.out) (Kd.R_base ho8) hb)
        have n1_ := Aside0.mk (Kd.R_lower (Kd.R_new' ho8 (Kd.R_lt (by (with_reducible repeat (first | apply Kd.R_alloc | apply Kd.R_drewN | apply Kd.R_drew)); exact HO291.out))) (below_size (by repeat (first | (with_reducible first | exact HB.out | apply below_alloc | apply pw_below_drewN | apply below_drew1 | refine below_set ?_ GE285.out) | exact HB.out))))
        have n2_ := Aside0.mk (blk_below (g := gb285) (o := .cells #[.string a0_0, .slice A0_1 l0_1.length c0_1] 24 (0, 0)) (by (with_reducible repeat (first | refine blk_drewN ?_ _ | refine blk_drew ?_ | refine blk_alloc ?_ _)); exact BK285.out) hb)
        have n3_ := Aside0.mk (below_step (by repeat (first | (with_reducible first | exact HB.out | apply below_alloc | apply pw_below_drewN | apply below_drew1 | refine below_set ?_ GE285.out) | exact HB.out)) hb)
        clear HO291
        clear BK285
        clear HB
        have HO291 := n0_
        have HO288 := n1_
        have BK285 := n2_
        have HB := n3_
        clear n0_ n1_ n2_ n3_
        clear hb ho8
        refine hK.out _ _ ⟨(blk_cell BK285.out 0).trans rfl, (blk_cell BK285.out 1).trans rfl⟩ (fun hHeld => ?_)
        clear hK K
        refine norm_ (a' := ?_) ?_ ?_
        rotate_left
        · show Act.put _ (some 9) _ = _
          simp only [Act.put, List.setIfInBounds_toArray, List.set_cons_zero, List.set_cons_succ, i64_w, i32_w]
          rfl
        exact norm_ (by simp only [putAll, Act.put, List.setIfInBounds_toArray, List.set_cons_zero, List.set_cons_succ]) (hCont (v287, v290) _ ⟨hHeld, (by (with_reducible repeat (first | apply Kd.R_alloc | apply Kd.R_drewN | apply Kd.R_drew)); exact Kd.R_mono HO288.out (fun _ hk => hk.2)), (by (with_reducible repeat (first | apply Kd.R_alloc | apply Kd.R_drewN | apply Kd.R_drew)); exact Kd.R_mono HO291.out (fun _ hk => hk.2)), (by (with_reducible repeat (first | refine blk_drewN ?_ _ | refine blk_drew ?_ | refine blk_alloc ?_ _)); exact BK285.out), (by repeat (first | (with_reducible first | exact HB.out | apply below_alloc | apply pw_below_drewN | apply below_drew1 | refine below_set ?_ GE285.out) | exact HB.out))⟩)
    rintro ⟨v287, v290⟩ w9 ⟨hS_, h0_, h1_, h2_, h3_⟩
    have n0_ : Aside0 (Kd.R k43 43 w9 w.heap.size (fun k_ => some k_ ≠ (v290 : Value).ownBlock) v287 y286) := ⟨h0_⟩
    have n1_ : Aside0 (Kd.R k43 43 w9 w.heap.size (fun k_ => some k_ ≠ (v287 : Value).ownBlock) v290 t289) := ⟨h1_⟩
    have n2_ : Aside0 (w9.heap[gb285]? = some (.cells #[.string a0_0, .slice A0_1 l0_1.length c0_1] 24 (0, 0))) := ⟨h2_⟩
    have n3_ : Aside0 (Below w.heap.size w w9) := ⟨h3_⟩
    clear BK285
    clear HB
    clear h0_ h1_ h2_ h3_
    have HO288 := n0_
    have HO291 := n1_
    have BK285 := n2_
    have HB := n3_
    clear n0_ n1_ n2_ n3_
    have hHeld : w9.cell? ⟨gb285, 0, none⟩ = some (.string a0_0) ∧ w9.cell? ⟨gb285, 1, none⟩ = some (.slice A0_1 l0_1.length c0_1) := hS_
    obtain ⟨Ao11, co11, eo11⟩ := Kd.R_slice HO291.out
    (first | subst eo11 | (injection eo11 with f1_ f2_ f3_; have f4_ := f1_.symm; have f5_ := f3_.symm; clear f1_ f2_ f3_; subst f4_; subst f5_))
    refine norm_ (a' := ?_) ?_ ?_
    rotate_left
    · simp only [putAll, Act.put, List.setIfInBounds_toArray, List.set_cons_zero, List.set_cons_succ]
      rfl
    refine one_ (i := 10) (N := some 13) #[true, true, true, true, true, true, true, true, true, true, true, false] rfl rfl (one_of HT_.out (by kernel_rfl)) (by decide) (fun K hK => ?_)
    refine Kd.R_append_rows_step k43 (w0 := w) w.heap.size (by rfl) (.tmp 9) (.tmp 12) 31 43 (.agg #[(.string ⟨#[]⟩), (.int .i64 0), (.int .i64 0), (.int .i64 0), (.int .i64 0)]) 48 rfl Tryd.underlying31 info43 rfl (by decide) (by omega) v287 y286 t289 _ _ _ (fun k_ => some k_ ≠ (.slice Ao11 t289.length co11 : Value).ownBlock) (fun _ => False) rfl rfl ?aO ?aR (fun _ _ h => h) (fun _ h => h.elim) ?aF ?aB ?aS ?aL ?_
    (case aR => repeat (first | exact (Kd.R_reads' HO291.out).2.2 | (with_reducible refine Kd.C_alloc ?_ _) | (with_reducible refine Kd.C_drewN ?_ _) | (with_reducible refine Kd.C_drew ?_)))
    (case aB => exact (by repeat (first | (with_reducible first | exact HB.out | apply below_alloc | apply pw_below_drewN | apply below_drew1 | refine below_set ?_ GE285.out) | exact HB.out)))
    (case aF => exact (fun k_ hk => Kd.fresh' (Kd.R_lt (by (with_reducible repeat (first | apply Kd.R_alloc | apply Kd.R_drewN | apply Kd.R_drew)); exact HO291.out)) k_ hk))
    (case aO => exact (by (with_reducible repeat (first | apply Kd.R_alloc | apply Kd.R_drewN | apply Kd.R_drew)); exact HO288.out))
    (case aS => exact (below_size (by repeat (first | (with_reducible first | exact HB.out | apply below_alloc | apply pw_below_drewN | apply below_drew1 | refine below_set ?_ GE285.out) | exact HB.out))))
    (case aL => have := LMc3.out; omega)
    intro v293 w10 ho hb hg hat
    rw [← Ny292.out] at ho
    have n0_ := Aside0.mk (blk_grown (g := gb285) (o := .cells #[.string a0_0, .slice A0_1 l0_1.length c0_1] 24 (0, 0)) (by (with_reducible repeat (first | refine blk_drewN ?_ _ | refine blk_drew ?_ | refine blk_alloc ?_ _)); exact BK285.out) hg (Kd.R_ne HO288.out BK285.out (by decide)))
    have n1_ := Aside0.mk (Kd.R_after (ok := (fun _ => True)) (by (with_reducible repeat (first | apply Kd.R_alloc | apply Kd.R_drewN | apply Kd.R_drew)); exact Kd.R_mono HO291.out (fun _ hk => ⟨trivial, hk⟩)) hg hat)
    have n2_ := Aside0.mk (hb)
    have n3_ := Aside0.mk (ho)
    clear BK285
    clear HO291
    clear HB
    clear HO288
    have BK285 := n0_
    have HO291 := n1_
    have HB := n2_
    have HO294 := n3_
    clear n0_ n1_ n2_ n3_
    clear ho hb hg hat
    refine hK.out _ _ ⟨(blk_cell BK285.out 0).trans rfl, (blk_cell BK285.out 1).trans rfl⟩ (fun hHeld => ?_)
    clear hK K
    refine norm_ (a' := ?_) ?_ ?_
    rotate_left
    · show Act.put _ (some 13) _ = _
      simp only [Act.put, List.setIfInBounds_toArray, List.set_cons_zero, List.set_cons_succ, i64_w, i32_w]
      rfl
    refine pure_ (i := 11) (N := some 2) (v := ?_) (a' := ?_) #[true, true, true, true, true, true, true, true, true, true, true, true] rfl rfl (any_of HT_.out (by kernel_rfl)) (fun _ _ _ h => h) (Or.inl ⟨by rfl, ?_⟩) ?_ ?_
    rotate_left
    · intro w'
      go_simp
      with_reducible rfl
    rotate_left
    · simp only [Act.put, List.setIfInBounds_toArray, List.set_cons_zero, List.set_cons_succ, i64_w, i32_w]
      rfl
    refine done_ (done_of HT_.out (by kernel_rfl)) ?_
    try go_wp2
    go_ret
    exact ⟨_, by first | rfl | (simp [errW_none, errW_some] <;> rfl) | (simp [*, errW_none, errW_some] <;> rfl), by (with_reducible repeat (first | apply Kd.R_alloc | apply Kd.R_drewN | apply Kd.R_drew)); exact Kd.R_mono HO294.out (fun _ hk => trivial), by repeat (first | (with_reducible first | exact HB.out | apply below_alloc | apply pw_below_drewN | apply below_drew1 | refine below_set ?_ GE285.out) | exact HB.out)⟩
  · rw [if_neg c3] at H
    exact absurd H (by simp)

end Go.Proofs.YtjdjlccdidfgoaaDoor.H
end
section
-- Laid by this session's hprint.py, out of the kit's print.py and texts of the session. Not trusted: Lean checks it.
namespace Go.Proofs.YtjdjlccdidfgoaaDoor.H
open Go.RowKit Go.Proofs.YtjdjlccdidfgoaaDoorW.PrintWords Go.Proofs.YtjdjlccdidfgoaaDoorW.PrintLast Go.Proofs.YtjdjlccdidfgoaaDoorW.PrintMore
attribute [local go_sem] max2_int min2_int max_two min_two max_three min_three max_four min_four   -- for this text's walks alone
set_option linter.unusedVariables false
set_option linter.unusedSimpArgs false

-- OVPART 
/-! ### utf8_ValidString: function 52 -/
def utf8_ValidString.f (a0 : ByteArray) : Option Bool := if a0.size ≤ 140737488355328 then some (Go.Lib.validD a0.data.toList) else none
theorem utf8_ValidString.calls (a0 : ByteArray) (r : Bool) (w : World) (h : utf8_ValidString.f a0 = some r) (hT_ : Tabs_ w := by repeat (first | exact hT_ | exact Tabs_.below hT_ HB.out | exact Tabs_.below hT_ HB | with_reducible refine Tabs_.alloc ?_ _ | with_reducible refine Tabs_.drewN ?_ _ | with_reducible refine Tabs_.drew ?_)) :
    Calls Tryd.prog 52 #[.string a0] w fun e w' => e = .returned (.bool r) ∧ Below w.heap.size w w' := by
  unfold utf8_ValidString.f at h
  split at h
  case isFalse => cases h
  case isTrue hs =>
  obtain rfl := Option.some.inj h
  exact valid_calls a0 w (by omega) hT_


end Go.Proofs.YtjdjlccdidfgoaaDoor.H
end
section
-- Laid by this session's hprint.py, out of the kit's print.py and texts of the session. Not trusted: Lean checks it.
namespace Go.Proofs.YtjdjlccdidfgoaaDoor.H
open Go.RowKit Go.Proofs.YtjdjlccdidfgoaaDoorW.PrintWords Go.Proofs.YtjdjlccdidfgoaaDoorW.PrintLast Go.Proofs.YtjdjlccdidfgoaaDoorW.PrintMore
attribute [local go_sem] max2_int min2_int max_two min_two max_three min_three max_four min_four   -- for this text's walks alone
set_option linter.unusedVariables false
set_option linter.unusedSimpArgs false

/-! ### schema_named: function 26 -/
def schema_named.f (a0 : ByteArray) : Option (Bool) := if (a0.size : Int) ≥ 1 then (if (a0.size : Int) ≤ 64 then ((utf8_ValidString.f a0).bind fun t103 => (some t103)) else (some false)) else (some false)
set_option maxHeartbeats 8000000 in
set_option maxRecDepth 100000 in
theorem schema_named.calls (a0 : ByteArray) (r : Bool) (w : World) (h : schema_named.f a0 = some r) (hT_ : Tabs_ w := by repeat (first | exact hT_ | exact Tabs_.below hT_ HB.out | exact Tabs_.below hT_ HB | with_reducible refine Tabs_.alloc ?_ _ | with_reducible refine Tabs_.drewN ?_ _ | with_reducible refine Tabs_.drew ?_)) :
    Calls Tryd.prog 26 #[.string a0] w fun e w' => e = .returned (.bool r) ∧ Below w.heap.size w w' := by
  have HB := Aside0.mk (Below.refl w.heap.size w)
  have H : (if (a0.size : Int) ≥ 1 then (if (a0.size : Int) ≤ 64 then ((utf8_ValidString.f a0).bind fun t103 => (some t103)) else (some false)) else (some false)) = some r := h
  clear h
  by_cases c2 : (a0.size : Int) ≥ 1
  · rw [if_pos c2] at H
    have c2b0 : decide (1 ≤ (a0.size : Int)) = true := decide_eq_true c2
    have c2b1 : decide (1 ≤ a0.size) = true := decide_eq_true (by omega)
    clear c2
    by_cases c3 : (a0.size : Int) ≤ 64
    · rw [if_pos c3] at H
      have c3b0 : decide ((a0.size : Int) ≤ 64) = true := decide_eq_true c3
      have c3b1 : decide (a0.size ≤ 64) = true := decide_eq_true (by omega)
      clear c3
      replace H := Option.bind_eq_some_iff.mp H
      obtain ⟨t103, A40, H⟩ := H
      replace H : (some t103) = some r := H
      have A4 := Aside0.mk A40
      clear A40
      obtain rfl := Option.some.inj H
      go_enter Tryd.func26, Tryd.ntmps26
      go_wp2_with (first | (go_at_call 52; (with_reducible refine (utf8_ValidString.calls a0 t103 _ A4.out).mono ?_); rintro e w5 ⟨rfl, hb⟩; have n0_ := Aside0.mk (below_step (by repeat (first | (with_reducible first | exact HB.out | apply below_alloc | apply pw_below_drewN | apply below_drew1) | exact HB.out)) hb); clear HB; have HB := n0_; clear n0_; (try clear hb); (try clear hb2); (try clear hk); (try clear hi)))
      go_ret
      exact ⟨by first | rfl | (simp [errW_none, errW_some] <;> rfl) | (simp [*, errW_none, errW_some] <;> rfl), by repeat (first | (with_reducible first | exact HB.out | apply below_alloc | apply pw_below_drewN | apply below_drew1) | exact HB.out)⟩
    · rw [if_neg c3] at H
      have c3b0 : decide ((a0.size : Int) ≤ 64) = false := decide_eq_false c3
      have c3b1 : decide (a0.size ≤ 64) = false := decide_eq_false (by omega)
      clear c3
      obtain rfl := Option.some.inj H
      go_enter Tryd.func26, Tryd.ntmps26
      go_wp2
      go_ret
      exact ⟨by first | rfl | (simp [errW_none, errW_some] <;> rfl) | (simp [*, errW_none, errW_some] <;> rfl), by repeat (first | (with_reducible first | exact HB.out | apply below_alloc | apply pw_below_drewN | apply below_drew1) | exact HB.out)⟩
  · rw [if_neg c2] at H
    have c2b0 : decide (1 ≤ (a0.size : Int)) = false := decide_eq_false c2
    have c2b1 : decide (1 ≤ a0.size) = false := decide_eq_false (by omega)
    clear c2
    obtain rfl := Option.some.inj H
    go_enter Tryd.func26, Tryd.ntmps26
    go_wp2
    go_ret
    exact ⟨by first | rfl | (simp [errW_none, errW_some] <;> rfl) | (simp [*, errW_none, errW_some] <;> rfl), by repeat (first | (with_reducible first | exact HB.out | apply below_alloc | apply pw_below_drewN | apply below_drew1) | exact HB.out)⟩

end Go.Proofs.YtjdjlccdidfgoaaDoor.H
end
section
-- Laid by this session's hprint.py, out of the kit's print.py and texts of the session. Not trusted: Lean checks it.
namespace Go.Proofs.YtjdjlccdidfgoaaDoor.H
open Go.RowKit Go.Proofs.YtjdjlccdidfgoaaDoorW.PrintWords Go.Proofs.YtjdjlccdidfgoaaDoorW.PrintLast Go.Proofs.YtjdjlccdidfgoaaDoorW.PrintMore
attribute [local go_sem] max2_int min2_int max_two min_two max_three min_three max_four min_four   -- for this text's walks alone
set_option linter.unusedVariables false
set_option linter.unusedSimpArgs false

theorem eqA43 (d : Nat) (w : World) (x0 y0 : ByteArray) (x1 y1 : Int) (x2 y2 : Int) (x3 y3 : Int) (x4 y4 : Int) :
    (Op.equalIn (d + 2) 43 (.agg #[.string x0, .int .i64 x1, .int .i64 x2, .int .i64 x3, .int .i64 x4]) (.agg #[.string y0, .int .i64 y1, .int .i64 y2, .int .i64 y3, .int .i64 y4])).run Tryd.prog w = .ok (x0.toList == y0.toList && (x1 == y1 && (x2 == y2 && (x3 == y3 && (x4 == y4))))) w := by
  refine eqA_of Tryd.underlying43 (by kernel_rfl) ?_
  refine eqf_cons (by rfl) (by go_simp; rfl) (by go_simp; rfl) (by go_simp) ?_
  refine eqf_cons (by rfl) (by go_simp; rfl) (by go_simp; rfl) (by go_simp) ?_
  refine eqf_cons (by rfl) (by go_simp; rfl) (by go_simp; rfl) (by go_simp) ?_
  refine eqf_cons (by rfl) (by go_simp; rfl) (by go_simp; rfl) (by go_simp) ?_
  exact eqf_last (by rfl) (by go_simp; rfl) (by go_simp; rfl) (by go_simp)
end Go.Proofs.YtjdjlccdidfgoaaDoor.H
end
section
-- Laid by this session's hprint.py, out of the kit's print.py and texts of the session. Not trusted: Lean checks it.
namespace Go.Proofs.YtjdjlccdidfgoaaDoor.H
open Go.RowKit Go.Proofs.YtjdjlccdidfgoaaDoorW.PrintWords Go.Proofs.YtjdjlccdidfgoaaDoorW.PrintLast Go.Proofs.YtjdjlccdidfgoaaDoorW.PrintMore
attribute [local go_sem] max2_int min2_int max_two min_two max_three min_three max_four min_four   -- for this text's walks alone
set_option linter.unusedVariables false
set_option linter.unusedSimpArgs false

/-! ### marquetryref16_Count: function 8 -/
mutual
def marquetryref16_Count.l0 : Nat → List (S62) → Int → Int → Option (Int)
  | 0, _, _, _ => none
  | k + 1, x0, x3, x4 => if x4 < (x0.length : Int) then (if x3 ≤ 256 then (if 0 ≤ x4 then ((marquetryref16_Count.f k ((rd_T62 x0 x4).f5)).bind fun t102 => (marquetryref16_Count.l0 k x0 (wrap64 ((wrap64 (x3 + 1)) + t102)) (wrap64 (x4 + 1)))) else (none)) else (some x3)) else (some x3)
def marquetryref16_Count.f : Nat → List (S62) → Option (Int)
  | 0, _ => none
  | k + 1, l0 => marquetryref16_Count.l0 k l0 0 0
end
set_option maxHeartbeats 8000000 in
set_option maxRecDepth 100000 in
theorem marquetryref16_Count.calls (k : Nat) : ∀ (A0 : Option Addr) (c0 : Nat) (l0 : List (S62)) (r : Int) (w : World) (hr0 : Kd.C k62 w A0 l0.length l0) (hc0 : l0.length ≤ c0) (h : marquetryref16_Count.f k l0 = some r),
    Calls Tryd.prog 8 #[.slice A0 l0.length c0] w fun e w' => e = .returned (.int .i64 r) ∧ Drawn0 w w' := by
  induction k using Nat.strongRecOn with
  | _ k ih =>
  intro A0 c0 l0 r w hr0 hc0 h
  cases k with
  | zero => exact absurd h (by simp [marquetryref16_Count.f])
  | succ k =>
  simp only [marquetryref16_Count.f] at h
  have HR0 := Aside0.mk hr0
  have HC0 := Aside0.mk hc0
  clear hr0 hc0
  have H : (marquetryref16_Count.l0 k l0 0 0) = some r := h
  clear h
  have H' := Aside0.mk H
  clear H
  go_enter Tryd.func8, Tryd.ntmps8
  go_wp2
  go_loopg [3, 4] k (fun kq v3 v4 w' => ∃ (x3_1 : Int) (x4_1 : Int), v3 = .int .i64 x3_1 ∧ v4 = .int .i64 x4_1 ∧ Aside0 (marquetryref16_Count.l0 kq l0 x3_1 x4_1 = some r) ∧ Aside0 (kq ≤ k) ∧ Drawn0 w w')
  case atStart => exact ⟨(0), (0), (by first | rfl | (simp; done) | (simp [*]; done)), (by first | rfl | (simp; done) | (simp [*]; done)), H', ⟨Nat.le_refl _⟩, by repeat (first | exact Drawn0.refl _ | apply Drawn0.step)⟩
  case round =>
    clear H'
    obtain ⟨x3_1, x4_1, rfl, rfl, HA, HK1, ⟨m1, rfl⟩⟩ := hrel
    cases gk with
    | zero => exact absurd HA.out (by simp [marquetryref16_Count.l0])
    | succ k1 =>
      have H := HA.out
      clear HA
      simp only [marquetryref16_Count.l0] at H
      by_cases c2 : x4_1 < (l0.length : Int)
      · rw [if_pos c2] at H
        have c2b0 : decide (x4_1 < (l0.length : Int)) = true := decide_eq_true c2
        clear c2
        by_cases c3 : x3_1 ≤ 256
        · rw [if_pos c3] at H
          have c3b0 : decide (x3_1 ≤ 256) = true := decide_eq_true c3
          clear c3
          by_cases c4 : 0 ≤ x4_1
          · rw [if_pos c4] at H
            have c4b0 : decide (0 ≤ x4_1) = true := decide_eq_true c4
            clear c4
            replace H := Option.bind_eq_some_iff.mp H
            obtain ⟨t102, A50, H⟩ := H
            replace H : (marquetryref16_Count.l0 k1 l0 (wrap64 ((wrap64 (x3_1 + 1)) + t102)) (wrap64 (x4_1 + 1))) = some r := H
            have A5 := Aside0.mk A50
            clear A50
            have H' := Aside0.mk H
            clear H
            have p101 : 0 ≤ (x4_1 : Int) := of_decide_eq_true (by first | (with_reducible assumption) | assumption)
            have q101 : x4_1 < (l0.length : Int) := of_decide_eq_true (by first | (with_reducible assumption) | assumption)
            obtain ⟨ad101, A101_5, c101_5, e101, hx101_0, hx101_1, hx101_2, hx101_3, hx101_4, hx101_5, hl101_5, hi101_5⟩ := at_T62 HR0.out x4_1 p101 q101
            cases e101
            have HR101_5 := Aside0.mk hi101_5
            have HC101_5 := Aside0.mk hl101_5
            clear hi101_5 hl101_5
            replace p101 := eq_true p101
            replace q101 := eq_true q101
            go_wp2_with (first | ((with_reducible refine gate_callee (f := 8) rfl ?_); refine goesL_ (some 22) rfl rfl Tryd.func8 (by kernel_rfl) rfl #[.slice A101_5 ((rd_T62 l0 x4_1).f5).length c101_5] rfl (by (try simp only [List.map_toArray, List.map_cons, List.map_nil]); first | done | rfl | (simp only [List.length_drop, List.length_take]; rfl)) ?_; (with_reducible refine (ih k1 (by have := HK1.out; omega) _ _ ((rd_T62 l0 x4_1).f5) t102 _ ?side1 ?side2 A5.out).mono ?_); (case side1 => repeat (first | exact HR101_5.out | (with_reducible refine Kd.C_alloc ?_ _) | (with_reducible refine Kd.C_drewN ?_ _) | (with_reducible refine Kd.C_drew ?_))); (case side2 => exact HC101_5.out); rintro e w' ⟨rfl, ⟨nd, rfl⟩⟩; refine ⟨_, rfl, ?_⟩))
            go_roundg k1
            case measure => have := HK1.out; omega
            case rel => exact ⟨(wrap64 ((wrap64 (x3_1 + 1)) + t102)), (wrap64 (x4_1 + 1)), (by first | rfl | (simp; done) | (simp [*]; done)), (by first | rfl | (simp; done) | (simp [*]; done)), H', ⟨by have := HK1.out; omega⟩, by repeat (first | exact Drawn0.refl _ | apply Drawn0.step)⟩
          · rw [if_neg c4] at H
            exact absurd H (by simp)
        · rw [if_neg c3] at H
          have c3b0 : decide (x3_1 ≤ 256) = false := decide_eq_false c3
          clear c3
          obtain rfl := Option.some.inj H
          go_wp2
          go_ret
          exact ⟨by first | rfl | (simp; done) | (simp [*]; done), by repeat (first | exact Drawn0.refl _ | apply Drawn0.step)⟩
      · rw [if_neg c2] at H
        have c2b0 : decide (x4_1 < (l0.length : Int)) = false := decide_eq_false c2
        clear c2
        obtain rfl := Option.some.inj H
        go_wp2
        go_ret
        exact ⟨by first | rfl | (simp; done) | (simp [*]; done), by repeat (first | exact Drawn0.refl _ | apply Drawn0.step)⟩

end Go.Proofs.YtjdjlccdidfgoaaDoor.H
end
section
-- Laid by this session's hprint.py, out of the kit's print.py and texts of the session. Not trusted: Lean checks it.
namespace Go.Proofs.YtjdjlccdidfgoaaDoor.H
open Go.RowKit Go.Proofs.YtjdjlccdidfgoaaDoorW.PrintWords Go.Proofs.YtjdjlccdidfgoaaDoorW.PrintLast Go.Proofs.YtjdjlccdidfgoaaDoorW.PrintMore
attribute [local go_sem] max2_int min2_int max_two min_two max_three min_three max_four min_four   -- for this text's walks alone
set_option linter.unusedVariables false
set_option linter.unusedSimpArgs false

/-! ### marquetryref16_more: function 65 -/
def marquetryref16_more.f (a0 : ByteArray) (a1 : Int) : Option (Bool) := if a1 < (a0.size : Int) then (if 0 ≤ a1 then (if (bt a0 a1) ≥ 128 then (some (decide ((bt a0 a1) < 192))) else (some false)) else (none)) else (some false)
set_option maxHeartbeats 8000000 in
set_option maxRecDepth 100000 in
theorem marquetryref16_more.calls (a0 : ByteArray) (a1 : Int) (r : Bool) (w : World) (h : marquetryref16_more.f a0 a1 = some r) :
    Calls Tryd.prog 65 #[.string a0, .int .i64 a1] w fun e w' => e = .returned (.bool r) ∧ Drawn0 w w' := by
  have H : (if a1 < (a0.size : Int) then (if 0 ≤ a1 then (if (bt a0 a1) ≥ 128 then (some (decide ((bt a0 a1) < 192))) else (some false)) else (none)) else (some false)) = some r := h
  clear h
  by_cases c3 : a1 < (a0.size : Int)
  · rw [if_pos c3] at H
    have c3b0 : decide (a1 < (a0.size : Int)) = true := decide_eq_true c3
    clear c3
    by_cases c4 : 0 ≤ a1
    · rw [if_pos c4] at H
      have c4b0 : decide (0 ≤ a1) = true := decide_eq_true c4
      clear c4
      by_cases c6 : (bt a0 a1) ≥ 128
      · rw [if_pos c6] at H
        have c6b0 : decide (128 ≤ (bt a0 a1)) = true := decide_eq_true c6
        clear c6
        obtain rfl := Option.some.inj H
        have p5 : 0 ≤ (a1 : Int) := of_decide_eq_true (by first | (with_reducible assumption) | assumption)
        have q5 : a1 < (a0.size : Int) := of_decide_eq_true (by first | (with_reducible assumption) | assumption)
        have hx5 := bt_at a0 a1
        replace p5 := eq_true p5
        replace q5 := eq_true q5
        have p7 : 0 ≤ (a1 : Int) := of_decide_eq_true (by first | (with_reducible assumption) | assumption)
        have q7 : a1 < (a0.size : Int) := of_decide_eq_true (by first | (with_reducible assumption) | assumption)
        have hx7 := bt_at a0 a1
        replace p7 := eq_true p7
        replace q7 := eq_true q7
        go_enter Tryd.func65, Tryd.ntmps65
        go_wp2
        go_ret
        exact ⟨by first | rfl | (simp; done) | (simp [*]; done), by repeat (first | exact Drawn0.refl _ | apply Drawn0.step)⟩
      · rw [if_neg c6] at H
        have c6b0 : decide (128 ≤ (bt a0 a1)) = false := decide_eq_false c6
        clear c6
        obtain rfl := Option.some.inj H
        have p5 : 0 ≤ (a1 : Int) := of_decide_eq_true (by first | (with_reducible assumption) | assumption)
        have q5 : a1 < (a0.size : Int) := of_decide_eq_true (by first | (with_reducible assumption) | assumption)
        have hx5 := bt_at a0 a1
        replace p5 := eq_true p5
        replace q5 := eq_true q5
        go_enter Tryd.func65, Tryd.ntmps65
        go_wp2
        go_ret
        exact ⟨by first | rfl | (simp; done) | (simp [*]; done), by repeat (first | exact Drawn0.refl _ | apply Drawn0.step)⟩
    · rw [if_neg c4] at H
      exact absurd H (by simp)
  · rw [if_neg c3] at H
    have c3b0 : decide (a1 < (a0.size : Int)) = false := decide_eq_false c3
    clear c3
    obtain rfl := Option.some.inj H
    go_enter Tryd.func65, Tryd.ntmps65
    go_wp2
    go_ret
    exact ⟨by first | rfl | (simp; done) | (simp [*]; done), by repeat (first | exact Drawn0.refl _ | apply Drawn0.step)⟩

end Go.Proofs.YtjdjlccdidfgoaaDoor.H
end
section
-- Laid by this session's hprint.py, out of the kit's print.py and texts of the session. Not trusted: Lean checks it.
namespace Go.Proofs.YtjdjlccdidfgoaaDoor.H
open Go.RowKit Go.Proofs.YtjdjlccdidfgoaaDoorW.PrintWords Go.Proofs.YtjdjlccdidfgoaaDoorW.PrintLast Go.Proofs.YtjdjlccdidfgoaaDoorW.PrintMore
attribute [local go_sem] max2_int min2_int max_two min_two max_three min_three max_four min_four   -- for this text's walks alone
set_option linter.unusedVariables false
set_option linter.unusedSimpArgs false

/-! ### marquetryref16_runeAt: function 64 -/
mutual
def marquetryref16_runeAt.j0 : Nat → ByteArray → Int → Int → Bool → Option (Int)
  | 0, _, _, _, _ => none
  | k + 1, x0, x1, x5, x22 => if x22 = true then (some 2) else (if x5 ≥ 224 then (if x5 ≤ 239 then ((marquetryref16_more.f x0 (wrap64 (x1 + 1))).bind fun t120 => (if t120 = true then ((marquetryref16_more.f x0 (wrap64 (x1 + 2))).bind fun t121 => (marquetryref16_runeAt.j1 k x0 x1 x5 t121)) else (marquetryref16_runeAt.j1 k x0 x1 x5 false))) else (marquetryref16_runeAt.j1 k x0 x1 x5 false)) else (marquetryref16_runeAt.j1 k x0 x1 x5 false))
def marquetryref16_runeAt.j1 : Nat → ByteArray → Int → Int → Bool → Option (Int)
  | 0, _, _, _, _ => none
  | k + 1, x0, x1, x5, x40 => if x40 = true then (if x5 = 224 then (if 0 ≤ (wrap64 (x1 + 1)) then (if (wrap64 (x1 + 1)) < (x0.size : Int) then (if (bt x0 (wrap64 (x1 + 1))) < 160 then (some 0) else (if x5 = 237 then (if (bt x0 (wrap64 (x1 + 1))) > 159 then (some 0) else (some 3)) else (some 3))) else (none)) else (none)) else (if x5 = 237 then (if 0 ≤ (wrap64 (x1 + 1)) then (if (wrap64 (x1 + 1)) < (x0.size : Int) then (if (bt x0 (wrap64 (x1 + 1))) > 159 then (some 0) else (some 3)) else (none)) else (none)) else (some 3))) else (if x5 ≥ 240 then (if x5 ≤ 244 then ((marquetryref16_more.f x0 (wrap64 (x1 + 1))).bind fun t122 => (if t122 = true then ((marquetryref16_more.f x0 (wrap64 (x1 + 2))).bind fun t123 => (if t123 = true then ((marquetryref16_more.f x0 (wrap64 (x1 + 3))).bind fun t124 => (marquetryref16_runeAt.j2 k x0 x1 x5 t124)) else (marquetryref16_runeAt.j2 k x0 x1 x5 false))) else (marquetryref16_runeAt.j2 k x0 x1 x5 false))) else (marquetryref16_runeAt.j2 k x0 x1 x5 false)) else (marquetryref16_runeAt.j2 k x0 x1 x5 false))
def marquetryref16_runeAt.j2 : Nat → ByteArray → Int → Int → Bool → Option (Int)
  | 0, _, _, _, _ => none
  | k + 1, x0, x1, x5, x84 => if x84 = true then (if x5 = 240 then (if 0 ≤ (wrap64 (x1 + 1)) then (if (wrap64 (x1 + 1)) < (x0.size : Int) then (if (bt x0 (wrap64 (x1 + 1))) < 144 then (some 0) else (if x5 = 244 then (if (bt x0 (wrap64 (x1 + 1))) > 143 then (some 0) else (some 4)) else (some 4))) else (none)) else (none)) else (if x5 = 244 then (if 0 ≤ (wrap64 (x1 + 1)) then (if (wrap64 (x1 + 1)) < (x0.size : Int) then (if (bt x0 (wrap64 (x1 + 1))) > 143 then (some 0) else (some 4)) else (none)) else (none)) else (some 4))) else (some 0)
end
def marquetryref16_runeAt.f (k : Nat) (a0 : ByteArray) (a1 : Int) : Option (Int) := if 0 ≤ a1 then (if a1 < (a0.size : Int) then (if (bt a0 a1) < 128 then (some 1) else (if (bt a0 a1) ≥ 194 then (if (bt a0 a1) ≤ 223 then ((marquetryref16_more.f a0 (wrap64 (a1 + 1))).bind fun t119 => (marquetryref16_runeAt.j0 k a0 a1 (bt a0 a1) t119)) else (marquetryref16_runeAt.j0 k a0 a1 (bt a0 a1) false)) else (marquetryref16_runeAt.j0 k a0 a1 (bt a0 a1) false))) else (none)) else (none)
theorem marquetryref16_runeAt.mono_l : ∀ k, (∀ y0 y1 y2 y3, LeO (marquetryref16_runeAt.j0 k y0 y1 y2 y3) (marquetryref16_runeAt.j0 (k + 1) y0 y1 y2 y3)) ∧ (∀ y0 y1 y2 y3, LeO (marquetryref16_runeAt.j1 k y0 y1 y2 y3) (marquetryref16_runeAt.j1 (k + 1) y0 y1 y2 y3)) ∧ (∀ y0 y1 y2 y3, LeO (marquetryref16_runeAt.j2 k y0 y1 y2 y3) (marquetryref16_runeAt.j2 (k + 1) y0 y1 y2 y3))
  | 0 => ⟨fun _ _ _ _ r h => by simp [marquetryref16_runeAt.j0] at h, fun _ _ _ _ r h => by simp [marquetryref16_runeAt.j1] at h, fun _ _ _ _ r h => by simp [marquetryref16_runeAt.j2] at h⟩
  | k + 1 => by
    obtain ⟨ih0, ih1, ih2⟩ := marquetryref16_runeAt.mono_l k
    refine ⟨?_, ?_, ?_⟩
    · intro y0 y1 y2 y3
      unfold marquetryref16_runeAt.j0
      repeat' first
      | (with_reducible exact ih0 _ _ _ _)
      | (with_reducible exact ih1 _ _ _ _)
      | (with_reducible exact ih2 _ _ _ _)
      | (with_reducible exact LeO.refl _)
      | (with_reducible exact LeO.none _)
      | (with_reducible refine LeO.ite ?_ ?_)
      | (with_reducible refine LeO.bind ?_ (fun _ => ?_))
      | exact ih0 _ _ _ _
      | exact ih1 _ _ _ _
      | exact ih2 _ _ _ _
      | exact LeO.none _
      | refine LeO.ite ?_ ?_
      | refine LeO.bind ?_ (fun _ => ?_)
    · intro y0 y1 y2 y3
      unfold marquetryref16_runeAt.j1
      repeat' first
      | (with_reducible exact ih0 _ _ _ _)
      | (with_reducible exact ih1 _ _ _ _)
      | (with_reducible exact ih2 _ _ _ _)
      | (with_reducible exact LeO.refl _)
      | (with_reducible exact LeO.none _)
      | (with_reducible refine LeO.ite ?_ ?_)
      | (with_reducible refine LeO.bind ?_ (fun _ => ?_))
      | exact ih0 _ _ _ _
      | exact ih1 _ _ _ _
      | exact ih2 _ _ _ _
      | exact LeO.none _
      | refine LeO.ite ?_ ?_
      | refine LeO.bind ?_ (fun _ => ?_)
    · intro y0 y1 y2 y3
      unfold marquetryref16_runeAt.j2
      repeat' first
      | (with_reducible exact ih0 _ _ _ _)
      | (with_reducible exact ih1 _ _ _ _)
      | (with_reducible exact ih2 _ _ _ _)
      | (with_reducible exact LeO.refl _)
      | (with_reducible exact LeO.none _)
      | (with_reducible refine LeO.ite ?_ ?_)
      | (with_reducible refine LeO.bind ?_ (fun _ => ?_))
      | exact ih0 _ _ _ _
      | exact ih1 _ _ _ _
      | exact ih2 _ _ _ _
      | exact LeO.none _
      | refine LeO.ite ?_ ?_
      | refine LeO.bind ?_ (fun _ => ?_)
theorem marquetryref16_runeAt.mono : ∀ a0 a1 k, LeO (marquetryref16_runeAt.f k a0 a1) (marquetryref16_runeAt.f (k + 1) a0 a1) := by
  intro a0 a1 k
  obtain ⟨ih0, ih1, ih2⟩ := marquetryref16_runeAt.mono_l k
  unfold marquetryref16_runeAt.f
  repeat' first
      | (with_reducible exact ih0 _ _ _ _)
      | (with_reducible exact ih1 _ _ _ _)
      | (with_reducible exact ih2 _ _ _ _)
      | (with_reducible exact LeO.refl _)
      | (with_reducible exact LeO.none _)
      | (with_reducible refine LeO.ite ?_ ?_)
      | (with_reducible refine LeO.bind ?_ (fun _ => ?_))
      | exact ih0 _ _ _ _
      | exact ih1 _ _ _ _
      | exact ih2 _ _ _ _
      | exact LeO.none _
      | refine LeO.ite ?_ ?_
      | refine LeO.bind ?_ (fun _ => ?_)
set_option maxHeartbeats 8000000 in
set_option maxRecDepth 100000 in
theorem marquetryref16_runeAt.calls (k : Nat) (a0 : ByteArray) (a1 : Int) (r : Int) (w : World) (h : marquetryref16_runeAt.f k a0 a1 = some r) :
    Calls Tryd.prog 64 #[.string a0, .int .i64 a1] w fun e w' => e = .returned (.int .i64 r) ∧ Drawn0 w w' := by
  have H : (if 0 ≤ a1 then (if a1 < (a0.size : Int) then (if (bt a0 a1) < 128 then (some 1) else (if (bt a0 a1) ≥ 194 then (if (bt a0 a1) ≤ 223 then ((marquetryref16_more.f a0 (wrap64 (a1 + 1))).bind fun t119 => (marquetryref16_runeAt.j0 k a0 a1 (bt a0 a1) t119)) else (marquetryref16_runeAt.j0 k a0 a1 (bt a0 a1) false)) else (marquetryref16_runeAt.j0 k a0 a1 (bt a0 a1) false))) else (none)) else (none)) = some r := h
  clear h
  by_cases c3 : 0 ≤ a1
  · rw [if_pos c3] at H
    have c3b0 : decide (0 ≤ a1) = true := decide_eq_true c3
    clear c3
    by_cases c4 : a1 < (a0.size : Int)
    · rw [if_pos c4] at H
      have c4b0 : decide (a1 < (a0.size : Int)) = true := decide_eq_true c4
      clear c4
      by_cases c6 : (bt a0 a1) < 128
      · rw [if_pos c6] at H
        have c6b0 : decide ((bt a0 a1) < 128) = true := decide_eq_true c6
        clear c6
        obtain rfl := Option.some.inj H
        have p5 : 0 ≤ (a1 : Int) := of_decide_eq_true (by first | (with_reducible assumption) | assumption)
        have q5 : a1 < (a0.size : Int) := of_decide_eq_true (by first | (with_reducible assumption) | assumption)
        have hx5 := bt_at a0 a1
        replace p5 := eq_true p5
        replace q5 := eq_true q5
        go_enter Tryd.func64, Tryd.ntmps64
        go_wp2
        go_ret
        exact ⟨by first | rfl | (simp; done) | (simp [*]; done), by repeat (first | exact Drawn0.refl _ | apply Drawn0.step)⟩
      · rw [if_neg c6] at H
        have c6b0 : decide ((bt a0 a1) < 128) = false := decide_eq_false c6
        clear c6
        have HC7 := Aside0.mk H
        clear H
        have p5 : 0 ≤ (a1 : Int) := of_decide_eq_true (by first | (with_reducible assumption) | assumption)
        have q5 : a1 < (a0.size : Int) := of_decide_eq_true (by first | (with_reducible assumption) | assumption)
        have hx5 := bt_at a0 a1
        replace p5 := eq_true p5
        replace q5 := eq_true q5
        go_enter Tryd.func64, Tryd.ntmps64
        go_upto_region 4 with (fail)
        go_cut [22] (fun v22 wc => ∃ (kq : Nat) (x22_6 : Bool), v22 = .bool x22_6 ∧ Aside0 (marquetryref16_runeAt.j0 kq a0 a1 (bt a0 a1) x22_6 = some r) ∧ Aside0 (kq ≤ k) ∧ Drawn0 w wc)
        case first =>
          have H := HC7.out
          clear HC7
          by_cases c8 : (bt a0 a1) ≥ 194
          · rw [if_pos c8] at H
            have c8b0 : decide (194 ≤ (bt a0 a1)) = true := decide_eq_true c8
            clear c8
            (first | rw [c8b0] | (simp only [i64_w, i32_w]; rw [c8b0]) | skip)
            by_cases c9 : (bt a0 a1) ≤ 223
            · rw [if_pos c9] at H
              have c9b0 : decide ((bt a0 a1) ≤ 223) = true := decide_eq_true c9
              clear c9
              replace H := Option.bind_eq_some_iff.mp H
              obtain ⟨t119, A100, H⟩ := H
              replace H : (marquetryref16_runeAt.j0 k a0 a1 (bt a0 a1) t119) = some r := H
              have A10 := Aside0.mk A100
              clear A100
              have H' := Aside0.mk H
              clear H
              go_wp2_with (first | (go_at_call 65; (with_reducible refine (marquetryref16_more.calls a0 (wrap64 (a1 + 1)) t119 _ A10.out).mono ?_); rintro e w' ⟨rfl, ⟨nd, rfl⟩⟩))
              go_meet
              case rel => exact ⟨_, (t119), (by first | rfl | (simp; done) | (simp [*]; done)), H', ⟨by first | omega | exact Nat.le_refl _⟩, by repeat (first | exact Drawn0.refl _ | apply Drawn0.step)⟩
            · rw [if_neg c9] at H
              have c9b0 : decide ((bt a0 a1) ≤ 223) = false := decide_eq_false c9
              clear c9
              have H' := Aside0.mk H
              clear H
              go_wp2
              go_meet
              case rel => exact ⟨_, (false), (by first | rfl | (simp; done) | (simp [*]; done)), H', ⟨by first | omega | exact Nat.le_refl _⟩, by repeat (first | exact Drawn0.refl _ | apply Drawn0.step)⟩
          · rw [if_neg c8] at H
            have c8b0 : decide (194 ≤ (bt a0 a1)) = false := decide_eq_false c8
            clear c8
            (first | rw [c8b0] | (simp only [i64_w, i32_w]; rw [c8b0]) | skip)
            have H' := Aside0.mk H
            clear H
            go_wp2
            go_meet
            case rel => exact ⟨_, (false), (by first | rfl | (simp; done) | (simp [*]; done)), H', ⟨by first | omega | exact Nat.le_refl _⟩, by repeat (first | exact Drawn0.refl _ | apply Drawn0.step)⟩
        case rest =>
          clear HC7
          try clear p2
          try clear c3
          try clear c3b0
          try clear c4
          try clear c4b0
          try clear p5
          try clear q5
          try clear hx5
          try clear c6
          try clear c6b0
          try clear p6
          try clear c8
          try clear c8b0
          try clear c9
          try clear c9b0
          try clear p5
          try clear q5
          obtain ⟨kq, x22_6, rfl, HA, HJ6, ⟨mc6, rfl⟩⟩ := hcut
          cases kq with
          | zero => exact absurd HA.out (by simp [marquetryref16_runeAt.j0])
          | succ kj6 =>
            have H := HA.out
            clear HA
            simp only [marquetryref16_runeAt.j0] at H
            by_cases c11 : x22_6 = true
            · subst c11
              have H1 : (some 2) = some r := by rw [if_pos rfl] at H; exact H
              clear H
              have H := H1
              clear H1
              obtain rfl := Option.some.inj H
              go_wp2
              go_ret
              exact ⟨by first | rfl | (simp; done) | (simp [*]; done), by repeat (first | exact Drawn0.refl _ | apply Drawn0.step)⟩
            · replace c11 := Bool.eq_false_iff.mpr c11
              subst c11
              have H1 : (if (bt a0 a1) ≥ 224 then (if (bt a0 a1) ≤ 239 then ((marquetryref16_more.f a0 (wrap64 (a1 + 1))).bind fun t120 => (if t120 = true then ((marquetryref16_more.f a0 (wrap64 (a1 + 2))).bind fun t121 => (marquetryref16_runeAt.j1 kj6 a0 a1 (bt a0 a1) t121)) else (marquetryref16_runeAt.j1 kj6 a0 a1 (bt a0 a1) false))) else (marquetryref16_runeAt.j1 kj6 a0 a1 (bt a0 a1) false)) else (marquetryref16_runeAt.j1 kj6 a0 a1 (bt a0 a1) false)) = some r := by rw [if_neg (show ¬ (false = true) by decide)] at H; exact H
              clear H
              have H := H1
              clear H1
              have HC12 := Aside0.mk H
              clear H
              go_upto_region 6 with (fail)
              go_cut [40] (fun v40 wc => ∃ (kq : Nat) (x40_11 : Bool), v40 = .bool x40_11 ∧ Aside0 (marquetryref16_runeAt.j1 kq a0 a1 (bt a0 a1) x40_11 = some r) ∧ Aside0 (kq ≤ kj6) ∧ Drawn0 w wc)
              case first =>
                have H := HC12.out
                clear HC12
                by_cases c13 : (bt a0 a1) ≥ 224
                · rw [if_pos c13] at H
                  have c13b0 : decide (224 ≤ (bt a0 a1)) = true := decide_eq_true c13
                  clear c13
                  (first | rw [c13b0] | (simp only [i64_w, i32_w]; rw [c13b0]) | skip)
                  by_cases c14 : (bt a0 a1) ≤ 239
                  · rw [if_pos c14] at H
                    have c14b0 : decide ((bt a0 a1) ≤ 239) = true := decide_eq_true c14
                    clear c14
                    replace H := Option.bind_eq_some_iff.mp H
                    obtain ⟨t120, A150, H⟩ := H
                    replace H : (if t120 = true then ((marquetryref16_more.f a0 (wrap64 (a1 + 2))).bind fun t121 => (marquetryref16_runeAt.j1 kj6 a0 a1 (bt a0 a1) t121)) else (marquetryref16_runeAt.j1 kj6 a0 a1 (bt a0 a1) false)) = some r := H
                    have A15 := Aside0.mk A150
                    clear A150
                    by_cases c16 : t120 = true
                    · subst c16
                      have H1 : ((marquetryref16_more.f a0 (wrap64 (a1 + 2))).bind fun t121 => (marquetryref16_runeAt.j1 kj6 a0 a1 (bt a0 a1) t121)) = some r := by rw [if_pos rfl] at H; exact H
                      clear H
                      have H := H1
                      clear H1
                      replace H := Option.bind_eq_some_iff.mp H
                      obtain ⟨t121, A170, H⟩ := H
                      replace H : (marquetryref16_runeAt.j1 kj6 a0 a1 (bt a0 a1) t121) = some r := H
                      have A17 := Aside0.mk A170
                      clear A170
                      have H' := Aside0.mk H
                      clear H
                      go_wp2_with (first | (go_at_call 65; (with_reducible refine (marquetryref16_more.calls a0 (wrap64 (a1 + 1)) true _ A15.out).mono ?_); rintro e w' ⟨rfl, ⟨nd, rfl⟩⟩) | (go_at_call 65; (with_reducible refine (marquetryref16_more.calls a0 (wrap64 (a1 + 2)) t121 _ A17.out).mono ?_); rintro e w' ⟨rfl, ⟨nd, rfl⟩⟩))
                      go_meet
                      case rel => exact ⟨_, (t121), (by first | rfl | (simp; done) | (simp [*]; done)), H', ⟨by have := HJ6.out; first | omega | exact Nat.le_refl _⟩, by repeat (first | exact Drawn0.refl _ | apply Drawn0.step)⟩
                    · replace c16 := Bool.eq_false_iff.mpr c16
                      subst c16
                      have H1 : (marquetryref16_runeAt.j1 kj6 a0 a1 (bt a0 a1) false) = some r := by rw [if_neg (show ¬ (false = true) by decide)] at H; exact H
                      clear H
                      have H := H1
                      clear H1
                      have H' := Aside0.mk H
                      clear H
                      go_wp2_with (first | (go_at_call 65; (with_reducible refine (marquetryref16_more.calls a0 (wrap64 (a1 + 1)) false _ A15.out).mono ?_); rintro e w' ⟨rfl, ⟨nd, rfl⟩⟩))
                      go_meet
                      case rel => exact ⟨_, (false), (by first | rfl | (simp; done) | (simp [*]; done)), H', ⟨by have := HJ6.out; first | omega | exact Nat.le_refl _⟩, by repeat (first | exact Drawn0.refl _ | apply Drawn0.step)⟩
                  · rw [if_neg c14] at H
                    have c14b0 : decide ((bt a0 a1) ≤ 239) = false := decide_eq_false c14
                    clear c14
                    have H' := Aside0.mk H
                    clear H
                    go_wp2
                    go_meet
                    case rel => exact ⟨_, (false), (by first | rfl | (simp; done) | (simp [*]; done)), H', ⟨by have := HJ6.out; first | omega | exact Nat.le_refl _⟩, by repeat (first | exact Drawn0.refl _ | apply Drawn0.step)⟩
                · rw [if_neg c13] at H
                  have c13b0 : decide (224 ≤ (bt a0 a1)) = false := decide_eq_false c13
                  clear c13
                  (first | rw [c13b0] | (simp only [i64_w, i32_w]; rw [c13b0]) | skip)
                  have H' := Aside0.mk H
                  clear H
                  go_wp2
                  go_meet
                  case rel => exact ⟨_, (false), (by first | rfl | (simp; done) | (simp [*]; done)), H', ⟨by have := HJ6.out; first | omega | exact Nat.le_refl _⟩, by repeat (first | exact Drawn0.refl _ | apply Drawn0.step)⟩
              case rest =>
                clear HC12
                try clear c1
                try clear p2
                try clear c3
                try clear c3b0
                try clear c4
                try clear c4b0
                try clear p5
                try clear q5
                try clear hx5
                try clear c6
                try clear c6b0
                try clear p6
                try clear c8
                try clear c8b0
                try clear c9
                try clear c9b0
                try clear c11
                try clear c13
                try clear c13b0
                try clear c14
                try clear c14b0
                try clear c16
                try clear p2
                try clear p5
                try clear p6
                try clear q5
                obtain ⟨kq, x40_11, rfl, HA, HJ11, ⟨mc11, rfl⟩⟩ := hcut
                cases kq with
                | zero => exact absurd HA.out (by simp [marquetryref16_runeAt.j1])
                | succ kj11 =>
                  have H := HA.out
                  clear HA
                  simp only [marquetryref16_runeAt.j1] at H
                  by_cases c18 : x40_11 = true
                  · subst c18
                    have H1 : (if (bt a0 a1) = 224 then (if 0 ≤ (wrap64 (a1 + 1)) then (if (wrap64 (a1 + 1)) < (a0.size : Int) then (if (bt a0 (wrap64 (a1 + 1))) < 160 then (some 0) else (if (bt a0 a1) = 237 then (if (bt a0 (wrap64 (a1 + 1))) > 159 then (some 0) else (some 3)) else (some 3))) else (none)) else (none)) else (if (bt a0 a1) = 237 then (if 0 ≤ (wrap64 (a1 + 1)) then (if (wrap64 (a1 + 1)) < (a0.size : Int) then (if (bt a0 (wrap64 (a1 + 1))) > 159 then (some 0) else (some 3)) else (none)) else (none)) else (some 3))) = some r := by rw [if_pos rfl] at H; exact H
                    clear H
                    have H := H1
                    clear H1
                    by_cases c19 : (bt a0 a1) = 224
                    · rw [if_pos c19] at H
                      have c19b0 : ((bt a0 a1) == 224) = true := beq_iff_eq.mpr c19
                      have c19b1 : ((bt a0 a1) != 224) = false := bne_eq_false_iff_eq.mpr c19
                      clear c19
                      obtain ⟨ji20, hji20⟩ : ∃ j_ : Int, (wrap64 (a1 + 1)) = j_ := ⟨_, rfl⟩
                      replace H : (if 0 ≤ (ji20) then (if (ji20) < (a0.size : Int) then (if (bt a0 (ji20)) < 160 then (some 0) else (if (bt a0 a1) = 237 then (if (bt a0 (ji20)) > 159 then (some 0) else (some 3)) else (some 3))) else (none)) else (none)) = some r := by first | (rw [hji20] at H; exact H) | (simp only [hji20] at H ⊢; exact H)
                      have hji20w : (IntKind.i64.wrap (a1 + 1)) = ji20 := (i64_w _).trans hji20
                      by_cases c21 : 0 ≤ (ji20)
                      · rw [if_pos c21] at H
                        have c21b0 : decide (0 ≤ (ji20)) = true := decide_eq_true c21
                        clear c21
                        by_cases c22 : (ji20) < (a0.size : Int)
                        · rw [if_pos c22] at H
                          have c22b0 : decide ((ji20) < (a0.size : Int)) = true := decide_eq_true c22
                          clear c22
                          by_cases c24 : (bt a0 (ji20)) < 160
                          · rw [if_pos c24] at H
                            have c24b0 : decide ((bt a0 (ji20)) < 160) = true := decide_eq_true c24
                            clear c24
                            obtain rfl := Option.some.inj H
                            have p23 : 0 ≤ ((ji20) : Int) := of_decide_eq_true (by first | (with_reducible assumption) | assumption)
                            have q23 : (ji20) < (a0.size : Int) := of_decide_eq_true (by first | (with_reducible assumption) | assumption)
                            have hx23 := bt_at a0 (ji20)
                            replace p23 := eq_true p23
                            replace q23 := eq_true q23
                            go_wp2
                            go_ret
                            exact ⟨by first | rfl | (simp; done) | (simp only [← hji20] <;> (first | rfl | simp)) | (simp [*]; done), by repeat (first | exact Drawn0.refl _ | apply Drawn0.step)⟩
                          · rw [if_neg c24] at H
                            have c24b0 : decide ((bt a0 (ji20)) < 160) = false := decide_eq_false c24
                            clear c24
                            by_cases c25 : (bt a0 a1) = 237
                            · rw [if_pos c25] at H
                              have c25b0 : ((bt a0 a1) == 237) = true := beq_iff_eq.mpr c25
                              have c25b1 : ((bt a0 a1) != 237) = false := bne_eq_false_iff_eq.mpr c25
                              clear c25
                              by_cases c27 : (bt a0 (ji20)) > 159
                              · rw [if_pos c27] at H
                                have c27b0 : decide (159 < (bt a0 (ji20))) = true := decide_eq_true c27
                                clear c27
                                obtain rfl := Option.some.inj H
                                have p23 : 0 ≤ ((ji20) : Int) := of_decide_eq_true (by first | (with_reducible assumption) | assumption)
                                have q23 : (ji20) < (a0.size : Int) := of_decide_eq_true (by first | (with_reducible assumption) | assumption)
                                have hx23 := bt_at a0 (ji20)
                                replace p23 := eq_true p23
                                replace q23 := eq_true q23
                                have p26 : 0 ≤ ((ji20) : Int) := of_decide_eq_true (by first | (with_reducible assumption) | assumption)
                                have q26 : (ji20) < (a0.size : Int) := of_decide_eq_true (by first | (with_reducible assumption) | assumption)
                                have hx26 := bt_at a0 (ji20)
                                replace p26 := eq_true p26
                                replace q26 := eq_true q26
                                go_wp2
                                go_ret
                                exact ⟨by first | rfl | (simp; done) | (simp only [← hji20] <;> (first | rfl | simp)) | (simp [*]; done), by repeat (first | exact Drawn0.refl _ | apply Drawn0.step)⟩
                              · rw [if_neg c27] at H
                                have c27b0 : decide (159 < (bt a0 (ji20))) = false := decide_eq_false c27
                                clear c27
                                obtain rfl := Option.some.inj H
                                have p23 : 0 ≤ ((ji20) : Int) := of_decide_eq_true (by first | (with_reducible assumption) | assumption)
                                have q23 : (ji20) < (a0.size : Int) := of_decide_eq_true (by first | (with_reducible assumption) | assumption)
                                have hx23 := bt_at a0 (ji20)
                                replace p23 := eq_true p23
                                replace q23 := eq_true q23
                                have p26 : 0 ≤ ((ji20) : Int) := of_decide_eq_true (by first | (with_reducible assumption) | assumption)
                                have q26 : (ji20) < (a0.size : Int) := of_decide_eq_true (by first | (with_reducible assumption) | assumption)
                                have hx26 := bt_at a0 (ji20)
                                replace p26 := eq_true p26
                                replace q26 := eq_true q26
                                go_wp2
                                go_ret
                                exact ⟨by first | rfl | (simp; done) | (simp only [← hji20] <;> (first | rfl | simp)) | (simp [*]; done), by repeat (first | exact Drawn0.refl _ | apply Drawn0.step)⟩
                            · rw [if_neg c25] at H
                              have c25b0 : ((bt a0 a1) == 237) = false := beq_eq_false_iff_ne.mpr c25
                              have c25b1 : ((bt a0 a1) != 237) = true := bne_iff_ne.mpr c25
                              obtain rfl := Option.some.inj H
                              have p23 : 0 ≤ ((ji20) : Int) := of_decide_eq_true (by first | (with_reducible assumption) | assumption)
                              have q23 : (ji20) < (a0.size : Int) := of_decide_eq_true (by first | (with_reducible assumption) | assumption)
                              have hx23 := bt_at a0 (ji20)
                              replace p23 := eq_true p23
                              replace q23 := eq_true q23
                              go_wp2
                              go_ret
                              exact ⟨by first | rfl | (simp; done) | (simp only [← hji20] <;> (first | rfl | simp)) | (simp [*]; done), by repeat (first | exact Drawn0.refl _ | apply Drawn0.step)⟩
                        · rw [if_neg c22] at H
                          exact absurd H (by simp)
                      · rw [if_neg c21] at H
                        exact absurd H (by simp)
                    · rw [if_neg c19] at H
                      have c19b0 : ((bt a0 a1) == 224) = false := beq_eq_false_iff_ne.mpr c19
                      have c19b1 : ((bt a0 a1) != 224) = true := bne_iff_ne.mpr c19
                      by_cases c28 : (bt a0 a1) = 237
                      · rw [if_pos c28] at H
                        have c28b0 : ((bt a0 a1) == 237) = true := beq_iff_eq.mpr c28
                        have c28b1 : ((bt a0 a1) != 237) = false := bne_eq_false_iff_eq.mpr c28
                        clear c28
                        obtain ⟨ji29, hji29⟩ : ∃ j_ : Int, (wrap64 (a1 + 1)) = j_ := ⟨_, rfl⟩
                        replace H : (if 0 ≤ (ji29) then (if (ji29) < (a0.size : Int) then (if (bt a0 (ji29)) > 159 then (some 0) else (some 3)) else (none)) else (none)) = some r := by first | (rw [hji29] at H; exact H) | (simp only [hji29] at H ⊢; exact H)
                        have hji29w : (IntKind.i64.wrap (a1 + 1)) = ji29 := (i64_w _).trans hji29
                        by_cases c30 : 0 ≤ (ji29)
                        · rw [if_pos c30] at H
                          have c30b0 : decide (0 ≤ (ji29)) = true := decide_eq_true c30
                          clear c30
                          by_cases c31 : (ji29) < (a0.size : Int)
                          · rw [if_pos c31] at H
                            have c31b0 : decide ((ji29) < (a0.size : Int)) = true := decide_eq_true c31
                            clear c31
                            by_cases c33 : (bt a0 (ji29)) > 159
                            · rw [if_pos c33] at H
                              have c33b0 : decide (159 < (bt a0 (ji29))) = true := decide_eq_true c33
                              clear c33
                              obtain rfl := Option.some.inj H
                              have p32 : 0 ≤ ((ji29) : Int) := of_decide_eq_true (by first | (with_reducible assumption) | assumption)
                              have q32 : (ji29) < (a0.size : Int) := of_decide_eq_true (by first | (with_reducible assumption) | assumption)
                              have hx32 := bt_at a0 (ji29)
                              replace p32 := eq_true p32
                              replace q32 := eq_true q32
                              go_wp2
                              go_ret
                              exact ⟨by first | rfl | (simp; done) | (simp only [← hji29] <;> (first | rfl | simp)) | (simp [*]; done), by repeat (first | exact Drawn0.refl _ | apply Drawn0.step)⟩
                            · rw [if_neg c33] at H
                              have c33b0 : decide (159 < (bt a0 (ji29))) = false := decide_eq_false c33
                              clear c33
                              obtain rfl := Option.some.inj H
                              have p32 : 0 ≤ ((ji29) : Int) := of_decide_eq_true (by first | (with_reducible assumption) | assumption)
                              have q32 : (ji29) < (a0.size : Int) := of_decide_eq_true (by first | (with_reducible assumption) | assumption)
                              have hx32 := bt_at a0 (ji29)
                              replace p32 := eq_true p32
                              replace q32 := eq_true q32
                              go_wp2
                              go_ret
                              exact ⟨by first | rfl | (simp; done) | (simp only [← hji29] <;> (first | rfl | simp)) | (simp [*]; done), by repeat (first | exact Drawn0.refl _ | apply Drawn0.step)⟩
                          · rw [if_neg c31] at H
                            exact absurd H (by simp)
                        · rw [if_neg c30] at H
                          exact absurd H (by simp)
                      · rw [if_neg c28] at H
                        have c28b0 : ((bt a0 a1) == 237) = false := beq_eq_false_iff_ne.mpr c28
                        have c28b1 : ((bt a0 a1) != 237) = true := bne_iff_ne.mpr c28
                        obtain rfl := Option.some.inj H
                        go_wp2
                        go_ret
                        exact ⟨by first | rfl | (simp; done) | (simp [*]; done), by repeat (first | exact Drawn0.refl _ | apply Drawn0.step)⟩
                  · replace c18 := Bool.eq_false_iff.mpr c18
                    subst c18
                    have H1 : (if (bt a0 a1) ≥ 240 then (if (bt a0 a1) ≤ 244 then ((marquetryref16_more.f a0 (wrap64 (a1 + 1))).bind fun t122 => (if t122 = true then ((marquetryref16_more.f a0 (wrap64 (a1 + 2))).bind fun t123 => (if t123 = true then ((marquetryref16_more.f a0 (wrap64 (a1 + 3))).bind fun t124 => (marquetryref16_runeAt.j2 kj11 a0 a1 (bt a0 a1) t124)) else (marquetryref16_runeAt.j2 kj11 a0 a1 (bt a0 a1) false))) else (marquetryref16_runeAt.j2 kj11 a0 a1 (bt a0 a1) false))) else (marquetryref16_runeAt.j2 kj11 a0 a1 (bt a0 a1) false)) else (marquetryref16_runeAt.j2 kj11 a0 a1 (bt a0 a1) false)) = some r := by rw [if_neg (show ¬ (false = true) by decide)] at H; exact H
                    clear H
                    have H := H1
                    clear H1
                    have HC34 := Aside0.mk H
                    clear H
                    go_upto_region 10 with (fail)
                    go_cut [84] (fun v84 wc => ∃ (kq : Nat) (x84_33 : Bool), v84 = .bool x84_33 ∧ Aside0 (marquetryref16_runeAt.j2 kq a0 a1 (bt a0 a1) x84_33 = some r) ∧ Aside0 (kq ≤ kj11) ∧ Drawn0 w wc)
                    case first =>
                      have H := HC34.out
                      clear HC34
                      by_cases c35 : (bt a0 a1) ≥ 240
                      · rw [if_pos c35] at H
                        have c35b0 : decide (240 ≤ (bt a0 a1)) = true := decide_eq_true c35
                        clear c35
                        (first | rw [c35b0] | (simp only [i64_w, i32_w]; rw [c35b0]) | skip)
                        by_cases c36 : (bt a0 a1) ≤ 244
                        · rw [if_pos c36] at H
                          have c36b0 : decide ((bt a0 a1) ≤ 244) = true := decide_eq_true c36
                          clear c36
                          replace H := Option.bind_eq_some_iff.mp H
                          obtain ⟨t122, A370, H⟩ := H
                          replace H : (if t122 = true then ((marquetryref16_more.f a0 (wrap64 (a1 + 2))).bind fun t123 => (if t123 = true then ((marquetryref16_more.f a0 (wrap64 (a1 + 3))).bind fun t124 => (marquetryref16_runeAt.j2 kj11 a0 a1 (bt a0 a1) t124)) else (marquetryref16_runeAt.j2 kj11 a0 a1 (bt a0 a1) false))) else (marquetryref16_runeAt.j2 kj11 a0 a1 (bt a0 a1) false)) = some r := H
                          have A37 := Aside0.mk A370
                          clear A370
                          by_cases c38 : t122 = true
                          · subst c38
                            have H1 : ((marquetryref16_more.f a0 (wrap64 (a1 + 2))).bind fun t123 => (if t123 = true then ((marquetryref16_more.f a0 (wrap64 (a1 + 3))).bind fun t124 => (marquetryref16_runeAt.j2 kj11 a0 a1 (bt a0 a1) t124)) else (marquetryref16_runeAt.j2 kj11 a0 a1 (bt a0 a1) false))) = some r := by rw [if_pos rfl] at H; exact H
                            clear H
                            have H := H1
                            clear H1
                            replace H := Option.bind_eq_some_iff.mp H
                            obtain ⟨t123, A390, H⟩ := H
                            replace H : (if t123 = true then ((marquetryref16_more.f a0 (wrap64 (a1 + 3))).bind fun t124 => (marquetryref16_runeAt.j2 kj11 a0 a1 (bt a0 a1) t124)) else (marquetryref16_runeAt.j2 kj11 a0 a1 (bt a0 a1) false)) = some r := H
                            have A39 := Aside0.mk A390
                            clear A390
                            by_cases c40 : t123 = true
                            · subst c40
                              have H1 : ((marquetryref16_more.f a0 (wrap64 (a1 + 3))).bind fun t124 => (marquetryref16_runeAt.j2 kj11 a0 a1 (bt a0 a1) t124)) = some r := by rw [if_pos rfl] at H; exact H
                              clear H
                              have H := H1
                              clear H1
                              replace H := Option.bind_eq_some_iff.mp H
                              obtain ⟨t124, A410, H⟩ := H
                              replace H : (marquetryref16_runeAt.j2 kj11 a0 a1 (bt a0 a1) t124) = some r := H
                              have A41 := Aside0.mk A410
                              clear A410
                              have H' := Aside0.mk H
                              clear H
                              go_wp2_with (first | (go_at_call 65; (with_reducible refine (marquetryref16_more.calls a0 (wrap64 (a1 + 1)) true _ A37.out).mono ?_); rintro e w' ⟨rfl, ⟨nd, rfl⟩⟩) | (go_at_call 65; (with_reducible refine (marquetryref16_more.calls a0 (wrap64 (a1 + 2)) true _ A39.out).mono ?_); rintro e w' ⟨rfl, ⟨nd, rfl⟩⟩) | (go_at_call 65; (with_reducible refine (marquetryref16_more.calls a0 (wrap64 (a1 + 3)) t124 _ A41.out).mono ?_); rintro e w' ⟨rfl, ⟨nd, rfl⟩⟩))
                              go_meet
                              case rel => exact ⟨_, (t124), (by first | rfl | (simp; done) | (simp [*]; done)), H', ⟨by have := HJ6.out; have := HJ11.out; first | omega | exact Nat.le_refl _⟩, by repeat (first | exact Drawn0.refl _ | apply Drawn0.step)⟩
                            · replace c40 := Bool.eq_false_iff.mpr c40
                              subst c40
                              have H1 : (marquetryref16_runeAt.j2 kj11 a0 a1 (bt a0 a1) false) = some r := by rw [if_neg (show ¬ (false = true) by decide)] at H; exact H
                              clear H
                              have H := H1
                              clear H1
                              have H' := Aside0.mk H
                              clear H
                              go_wp2_with (first | (go_at_call 65; (with_reducible refine (marquetryref16_more.calls a0 (wrap64 (a1 + 1)) true _ A37.out).mono ?_); rintro e w' ⟨rfl, ⟨nd, rfl⟩⟩) | (go_at_call 65; (with_reducible refine (marquetryref16_more.calls a0 (wrap64 (a1 + 2)) false _ A39.out).mono ?_); rintro e w' ⟨rfl, ⟨nd, rfl⟩⟩))
                              go_meet
                              case rel => exact ⟨_, (false), (by first | rfl | (simp; done) | (simp [*]; done)), H', ⟨by have := HJ6.out; have := HJ11.out; first | omega | exact Nat.le_refl _⟩, by repeat (first | exact Drawn0.refl _ | apply Drawn0.step)⟩
                          · replace c38 := Bool.eq_false_iff.mpr c38
                            subst c38
                            have H1 : (marquetryref16_runeAt.j2 kj11 a0 a1 (bt a0 a1) false) = some r := by rw [if_neg (show ¬ (false = true) by decide)] at H; exact H
                            clear H
                            have H := H1
                            clear H1
                            have H' := Aside0.mk H
                            clear H
                            go_wp2_with (first | (go_at_call 65; (with_reducible refine (marquetryref16_more.calls a0 (wrap64 (a1 + 1)) false _ A37.out).mono ?_); rintro e w' ⟨rfl, ⟨nd, rfl⟩⟩))
                            go_meet
                            case rel => exact ⟨_, (false), (by first | rfl | (simp; done) | (simp [*]; done)), H', ⟨by have := HJ6.out; have := HJ11.out; first | omega | exact Nat.le_refl _⟩, by repeat (first | exact Drawn0.refl _ | apply Drawn0.step)⟩
                        · rw [if_neg c36] at H
                          have c36b0 : decide ((bt a0 a1) ≤ 244) = false := decide_eq_false c36
                          clear c36
                          have H' := Aside0.mk H
                          clear H
                          go_wp2
                          go_meet
                          case rel => exact ⟨_, (false), (by first | rfl | (simp; done) | (simp [*]; done)), H', ⟨by have := HJ6.out; have := HJ11.out; first | omega | exact Nat.le_refl _⟩, by repeat (first | exact Drawn0.refl _ | apply Drawn0.step)⟩
                      · rw [if_neg c35] at H
                        have c35b0 : decide (240 ≤ (bt a0 a1)) = false := decide_eq_false c35
                        clear c35
                        (first | rw [c35b0] | (simp only [i64_w, i32_w]; rw [c35b0]) | skip)
                        have H' := Aside0.mk H
                        clear H
                        go_wp2
                        go_meet
                        case rel => exact ⟨_, (false), (by first | rfl | (simp; done) | (simp [*]; done)), H', ⟨by have := HJ6.out; have := HJ11.out; first | omega | exact Nat.le_refl _⟩, by repeat (first | exact Drawn0.refl _ | apply Drawn0.step)⟩
                    case rest =>
                      clear HC34
                      try clear c1
                      try clear c2
                      try clear p2
                      try clear q2
                      try clear hx2
                      try clear c3
                      try clear c3b0
                      try clear p3
                      try clear q3
                      try clear hx3
                      try clear c4
                      try clear c4b0
                      try clear p5
                      try clear q5
                      try clear hx5
                      try clear c6
                      try clear c6b0
                      try clear p6
                      try clear c8
                      try clear c8b0
                      try clear c9
                      try clear c9b0
                      try clear c11
                      try clear c13
                      try clear c13b0
                      try clear c14
                      try clear c14b0
                      try clear c16
                      try clear c18
                      try clear c19
                      try clear c19b0
                      try clear c19b1
                      try clear c21
                      try clear c21b0
                      try clear c22
                      try clear c22b0
                      try clear p23
                      try clear q23
                      try clear hx23
                      try clear c24
                      try clear c24b0
                      try clear c25
                      try clear c25b0
                      try clear c25b1
                      try clear p26
                      try clear q26
                      try clear hx26
                      try clear c27
                      try clear c27b0
                      try clear c28
                      try clear c28b0
                      try clear c28b1
                      try clear c30
                      try clear c30b0
                      try clear c31
                      try clear c31b0
                      try clear p32
                      try clear q32
                      try clear hx32
                      try clear c33
                      try clear c33b0
                      try clear c35
                      try clear c35b0
                      try clear c36
                      try clear c36b0
                      try clear c38
                      try clear c40
                      try clear p2
                      try clear p23
                      try clear p26
                      try clear p32
                      try clear p5
                      try clear p6
                      try clear q23
                      try clear q26
                      try clear q32
                      try clear q5
                      obtain ⟨kq, x84_33, rfl, HA, HJ33, ⟨mc33, rfl⟩⟩ := hcut
                      cases kq with
                      | zero => exact absurd HA.out (by simp [marquetryref16_runeAt.j2])
                      | succ kj33 =>
                        have H := HA.out
                        clear HA
                        simp only [marquetryref16_runeAt.j2] at H
                        by_cases c42 : x84_33 = true
                        · subst c42
                          have H1 : (if (bt a0 a1) = 240 then (if 0 ≤ (wrap64 (a1 + 1)) then (if (wrap64 (a1 + 1)) < (a0.size : Int) then (if (bt a0 (wrap64 (a1 + 1))) < 144 then (some 0) else (if (bt a0 a1) = 244 then (if (bt a0 (wrap64 (a1 + 1))) > 143 then (some 0) else (some 4)) else (some 4))) else (none)) else (none)) else (if (bt a0 a1) = 244 then (if 0 ≤ (wrap64 (a1 + 1)) then (if (wrap64 (a1 + 1)) < (a0.size : Int) then (if (bt a0 (wrap64 (a1 + 1))) > 143 then (some 0) else (some 4)) else (none)) else (none)) else (some 4))) = some r := by rw [if_pos rfl] at H; exact H
                          clear H
                          have H := H1
                          clear H1
                          by_cases c43 : (bt a0 a1) = 240
                          · rw [if_pos c43] at H
                            have c43b0 : ((bt a0 a1) == 240) = true := beq_iff_eq.mpr c43
                            have c43b1 : ((bt a0 a1) != 240) = false := bne_eq_false_iff_eq.mpr c43
                            clear c43
                            obtain ⟨ji44, hji44⟩ : ∃ j_ : Int, (wrap64 (a1 + 1)) = j_ := ⟨_, rfl⟩
                            replace H : (if 0 ≤ (ji44) then (if (ji44) < (a0.size : Int) then (if (bt a0 (ji44)) < 144 then (some 0) else (if (bt a0 a1) = 244 then (if (bt a0 (ji44)) > 143 then (some 0) else (some 4)) else (some 4))) else (none)) else (none)) = some r := by first | (rw [hji44] at H; exact H) | (simp only [hji44] at H ⊢; exact H)
                            have hji44w : (IntKind.i64.wrap (a1 + 1)) = ji44 := (i64_w _).trans hji44
                            by_cases c45 : 0 ≤ (ji44)
                            · rw [if_pos c45] at H
                              have c45b0 : decide (0 ≤ (ji44)) = true := decide_eq_true c45
                              clear c45
                              by_cases c46 : (ji44) < (a0.size : Int)
                              · rw [if_pos c46] at H
                                have c46b0 : decide ((ji44) < (a0.size : Int)) = true := decide_eq_true c46
                                clear c46
                                by_cases c48 : (bt a0 (ji44)) < 144
                                · rw [if_pos c48] at H
                                  have c48b0 : decide ((bt a0 (ji44)) < 144) = true := decide_eq_true c48
                                  clear c48
                                  obtain rfl := Option.some.inj H
                                  have p47 : 0 ≤ ((ji44) : Int) := of_decide_eq_true (by first | (with_reducible assumption) | assumption)
                                  have q47 : (ji44) < (a0.size : Int) := of_decide_eq_true (by first | (with_reducible assumption) | assumption)
                                  have hx47 := bt_at a0 (ji44)
                                  replace p47 := eq_true p47
                                  replace q47 := eq_true q47
                                  go_wp2
                                  go_ret
                                  exact ⟨by first | rfl | (simp; done) | (simp only [← hji44] <;> (first | rfl | simp)) | (simp [*]; done), by repeat (first | exact Drawn0.refl _ | apply Drawn0.step)⟩
                                · rw [if_neg c48] at H
                                  have c48b0 : decide ((bt a0 (ji44)) < 144) = false := decide_eq_false c48
                                  clear c48
                                  by_cases c49 : (bt a0 a1) = 244
                                  · rw [if_pos c49] at H
                                    have c49b0 : ((bt a0 a1) == 244) = true := beq_iff_eq.mpr c49
                                    have c49b1 : ((bt a0 a1) != 244) = false := bne_eq_false_iff_eq.mpr c49
                                    clear c49
                                    by_cases c51 : (bt a0 (ji44)) > 143
                                    · rw [if_pos c51] at H
                                      have c51b0 : decide (143 < (bt a0 (ji44))) = true := decide_eq_true c51
                                      clear c51
                                      obtain rfl := Option.some.inj H
                                      have p47 : 0 ≤ ((ji44) : Int) := of_decide_eq_true (by first | (with_reducible assumption) | assumption)
                                      have q47 : (ji44) < (a0.size : Int) := of_decide_eq_true (by first | (with_reducible assumption) | assumption)
                                      have hx47 := bt_at a0 (ji44)
                                      replace p47 := eq_true p47
                                      replace q47 := eq_true q47
                                      have p50 : 0 ≤ ((ji44) : Int) := of_decide_eq_true (by first | (with_reducible assumption) | assumption)
                                      have q50 : (ji44) < (a0.size : Int) := of_decide_eq_true (by first | (with_reducible assumption) | assumption)
                                      have hx50 := bt_at a0 (ji44)
                                      replace p50 := eq_true p50
                                      replace q50 := eq_true q50
                                      go_wp2
                                      go_ret
                                      exact ⟨by first | rfl | (simp; done) | (simp only [← hji44] <;> (first | rfl | simp)) | (simp [*]; done), by repeat (first | exact Drawn0.refl _ | apply Drawn0.step)⟩
                                    · rw [if_neg c51] at H
                                      have c51b0 : decide (143 < (bt a0 (ji44))) = false := decide_eq_false c51
                                      clear c51
                                      obtain rfl := Option.some.inj H
                                      have p47 : 0 ≤ ((ji44) : Int) := of_decide_eq_true (by first | (with_reducible assumption) | assumption)
                                      have q47 : (ji44) < (a0.size : Int) := of_decide_eq_true (by first | (with_reducible assumption) | assumption)
                                      have hx47 := bt_at a0 (ji44)
                                      replace p47 := eq_true p47
                                      replace q47 := eq_true q47
                                      have p50 : 0 ≤ ((ji44) : Int) := of_decide_eq_true (by first | (with_reducible assumption) | assumption)
                                      have q50 : (ji44) < (a0.size : Int) := of_decide_eq_true (by first | (with_reducible assumption) | assumption)
                                      have hx50 := bt_at a0 (ji44)
                                      replace p50 := eq_true p50
                                      replace q50 := eq_true q50
                                      go_wp2
                                      go_ret
                                      exact ⟨by first | rfl | (simp; done) | (simp only [← hji44] <;> (first | rfl | simp)) | (simp [*]; done), by repeat (first | exact Drawn0.refl _ | apply Drawn0.step)⟩
                                  · rw [if_neg c49] at H
                                    have c49b0 : ((bt a0 a1) == 244) = false := beq_eq_false_iff_ne.mpr c49
                                    have c49b1 : ((bt a0 a1) != 244) = true := bne_iff_ne.mpr c49
                                    obtain rfl := Option.some.inj H
                                    have p47 : 0 ≤ ((ji44) : Int) := of_decide_eq_true (by first | (with_reducible assumption) | assumption)
                                    have q47 : (ji44) < (a0.size : Int) := of_decide_eq_true (by first | (with_reducible assumption) | assumption)
                                    have hx47 := bt_at a0 (ji44)
                                    replace p47 := eq_true p47
                                    replace q47 := eq_true q47
                                    go_wp2
                                    go_ret
                                    exact ⟨by first | rfl | (simp; done) | (simp only [← hji44] <;> (first | rfl | simp)) | (simp [*]; done), by repeat (first | exact Drawn0.refl _ | apply Drawn0.step)⟩
                              · rw [if_neg c46] at H
                                exact absurd H (by simp)
                            · rw [if_neg c45] at H
                              exact absurd H (by simp)
                          · rw [if_neg c43] at H
                            have c43b0 : ((bt a0 a1) == 240) = false := beq_eq_false_iff_ne.mpr c43
                            have c43b1 : ((bt a0 a1) != 240) = true := bne_iff_ne.mpr c43
                            by_cases c52 : (bt a0 a1) = 244
                            · rw [if_pos c52] at H
                              have c52b0 : ((bt a0 a1) == 244) = true := beq_iff_eq.mpr c52
                              have c52b1 : ((bt a0 a1) != 244) = false := bne_eq_false_iff_eq.mpr c52
                              clear c52
                              obtain ⟨ji53, hji53⟩ : ∃ j_ : Int, (wrap64 (a1 + 1)) = j_ := ⟨_, rfl⟩
                              replace H : (if 0 ≤ (ji53) then (if (ji53) < (a0.size : Int) then (if (bt a0 (ji53)) > 143 then (some 0) else (some 4)) else (none)) else (none)) = some r := by first | (rw [hji53] at H; exact H) | (simp only [hji53] at H ⊢; exact H)
                              have hji53w : (IntKind.i64.wrap (a1 + 1)) = ji53 := (i64_w _).trans hji53
                              by_cases c54 : 0 ≤ (ji53)
                              · rw [if_pos c54] at H
                                have c54b0 : decide (0 ≤ (ji53)) = true := decide_eq_true c54
                                clear c54
                                by_cases c55 : (ji53) < (a0.size : Int)
                                · rw [if_pos c55] at H
                                  have c55b0 : decide ((ji53) < (a0.size : Int)) = true := decide_eq_true c55
                                  clear c55
                                  by_cases c57 : (bt a0 (ji53)) > 143
                                  · rw [if_pos c57] at H
                                    have c57b0 : decide (143 < (bt a0 (ji53))) = true := decide_eq_true c57
                                    clear c57
                                    obtain rfl := Option.some.inj H
                                    have p56 : 0 ≤ ((ji53) : Int) := of_decide_eq_true (by first | (with_reducible assumption) | assumption)
                                    have q56 : (ji53) < (a0.size : Int) := of_decide_eq_true (by first | (with_reducible assumption) | assumption)
                                    have hx56 := bt_at a0 (ji53)
                                    replace p56 := eq_true p56
                                    replace q56 := eq_true q56
                                    go_wp2
                                    go_ret
                                    exact ⟨by first | rfl | (simp; done) | (simp only [← hji53] <;> (first | rfl | simp)) | (simp [*]; done), by repeat (first | exact Drawn0.refl _ | apply Drawn0.step)⟩
                                  · rw [if_neg c57] at H
                                    have c57b0 : decide (143 < (bt a0 (ji53))) = false := decide_eq_false c57
                                    clear c57
                                    obtain rfl := Option.some.inj H
                                    have p56 : 0 ≤ ((ji53) : Int) := of_decide_eq_true (by first | (with_reducible assumption) | assumption)
                                    have q56 : (ji53) < (a0.size : Int) := of_decide_eq_true (by first | (with_reducible assumption) | assumption)
                                    have hx56 := bt_at a0 (ji53)
                                    replace p56 := eq_true p56
                                    replace q56 := eq_true q56
                                    go_wp2
                                    go_ret
                                    exact ⟨by first | rfl | (simp; done) | (simp only [← hji53] <;> (first | rfl | simp)) | (simp [*]; done), by repeat (first | exact Drawn0.refl _ | apply Drawn0.step)⟩
                                · rw [if_neg c55] at H
                                  exact absurd H (by simp)
                              · rw [if_neg c54] at H
                                exact absurd H (by simp)
                            · rw [if_neg c52] at H
                              have c52b0 : ((bt a0 a1) == 244) = false := beq_eq_false_iff_ne.mpr c52
                              have c52b1 : ((bt a0 a1) != 244) = true := bne_iff_ne.mpr c52
                              obtain rfl := Option.some.inj H
                              go_wp2
                              go_ret
                              exact ⟨by first | rfl | (simp; done) | (simp [*]; done), by repeat (first | exact Drawn0.refl _ | apply Drawn0.step)⟩
                        · replace c42 := Bool.eq_false_iff.mpr c42
                          subst c42
                          have H1 : (some 0) = some r := by rw [if_neg (show ¬ (false = true) by decide)] at H; exact H
                          clear H
                          have H := H1
                          clear H1
                          obtain rfl := Option.some.inj H
                          go_wp2
                          go_ret
                          exact ⟨by first | rfl | (simp; done) | (simp [*]; done), by repeat (first | exact Drawn0.refl _ | apply Drawn0.step)⟩
    · rw [if_neg c4] at H
      exact absurd H (by simp)
  · rw [if_neg c3] at H
    exact absurd H (by simp)

end Go.Proofs.YtjdjlccdidfgoaaDoor.H
end
section
-- Laid by this session's hprint.py, out of the kit's print.py and texts of the session. Not trusted: Lean checks it.
namespace Go.Proofs.YtjdjlccdidfgoaaDoor.H
open Go.RowKit Go.Proofs.YtjdjlccdidfgoaaDoorW.PrintWords Go.Proofs.YtjdjlccdidfgoaaDoorW.PrintLast Go.Proofs.YtjdjlccdidfgoaaDoorW.PrintMore
attribute [local go_sem] max2_int min2_int max_two min_two max_three min_three max_four min_four   -- for this text's walks alone
set_option linter.unusedVariables false
set_option linter.unusedSimpArgs false

/-! ### marquetryref16_UTF8: function 54 -/
def marquetryref16_UTF8.l0 : Nat → ByteArray → Int → Option (Bool)
  | 0, _, _ => none
  | k + 1, x0, x3 => if x3 < (x0.size : Int) then ((marquetryref16_runeAt.f k x0 x3).bind fun t125 => (if t125 = 0 then (some false) else (marquetryref16_UTF8.l0 k x0 (wrap64 (x3 + t125))))) else (some true)
def marquetryref16_UTF8.f (k : Nat) (a0 : ByteArray) : Option (Bool) := marquetryref16_UTF8.l0 k a0 0
set_option maxHeartbeats 8000000 in
set_option maxRecDepth 100000 in
theorem marquetryref16_UTF8.calls (k : Nat) (a0 : ByteArray) (r : Bool) (w : World) (h : marquetryref16_UTF8.f k a0 = some r) :
    Calls Tryd.prog 54 #[.string a0] w fun e w' => e = .returned (.bool r) ∧ Drawn0 w w' := by
  have H : (marquetryref16_UTF8.l0 k a0 0) = some r := h
  clear h
  have H' := Aside0.mk H
  clear H
  go_enter Tryd.func54, Tryd.ntmps54
  go_wp2
  go_loopg [3] k (fun kq v3 w' => ∃ (x3_1 : Int), v3 = .int .i64 x3_1 ∧ Aside0 (marquetryref16_UTF8.l0 kq a0 x3_1 = some r) ∧ Aside0 (kq ≤ k) ∧ Drawn0 w w')
  case atStart => exact ⟨(0), (by first | rfl | (simp; done) | (simp [*]; done)), H', ⟨Nat.le_refl _⟩, by repeat (first | exact Drawn0.refl _ | apply Drawn0.step)⟩
  case round =>
    clear H'
    obtain ⟨x3_1, rfl, HA, HK1, ⟨m1, rfl⟩⟩ := hrel
    cases gk with
    | zero => exact absurd HA.out (by simp [marquetryref16_UTF8.l0])
    | succ k1 =>
      have H := HA.out
      clear HA
      simp only [marquetryref16_UTF8.l0] at H
      by_cases c2 : x3_1 < (a0.size : Int)
      · rw [if_pos c2] at H
        have c2b0 : decide (x3_1 < (a0.size : Int)) = true := decide_eq_true c2
        clear c2
        replace H := Option.bind_eq_some_iff.mp H
        obtain ⟨t125, A30, H⟩ := H
        replace H : (if t125 = 0 then (some false) else (marquetryref16_UTF8.l0 k1 a0 (wrap64 (x3_1 + t125)))) = some r := H
        have A3 := Aside0.mk A30
        clear A30
        by_cases c4 : t125 = 0
        · rw [if_pos c4] at H
          have c4b0 : (t125 == 0) = true := beq_iff_eq.mpr c4
          have c4b1 : (t125 != 0) = false := bne_eq_false_iff_eq.mpr c4
          clear c4
          obtain rfl := Option.some.inj H
          go_wp2_with (first | ((with_reducible refine gate_callee (f := 64) rfl ?_); refine goesL_ (some 11) rfl rfl Tryd.func64 (by kernel_rfl) rfl #[.string a0, .int .i64 x3_1] rfl (by (try simp only [List.map_toArray, List.map_cons, List.map_nil]); first | done | rfl | (simp only [List.length_drop, List.length_take]; rfl)) ?_; (with_reducible refine (marquetryref16_runeAt.calls k1 a0 x3_1 t125 _ A3.out).mono ?_); rintro e w' ⟨rfl, ⟨nd, rfl⟩⟩; refine ⟨_, rfl, ?_⟩))
          go_ret
          exact ⟨by first | rfl | (simp; done) | (simp [*]; done), by repeat (first | exact Drawn0.refl _ | apply Drawn0.step)⟩
        · rw [if_neg c4] at H
          have c4b0 : (t125 == 0) = false := beq_eq_false_iff_ne.mpr c4
          have c4b1 : (t125 != 0) = true := bne_iff_ne.mpr c4
          have H' := Aside0.mk H
          clear H
          go_wp2_with (first | ((with_reducible refine gate_callee (f := 64) rfl ?_); refine goesL_ (some 11) rfl rfl Tryd.func64 (by kernel_rfl) rfl #[.string a0, .int .i64 x3_1] rfl (by (try simp only [List.map_toArray, List.map_cons, List.map_nil]); first | done | rfl | (simp only [List.length_drop, List.length_take]; rfl)) ?_; (with_reducible refine (marquetryref16_runeAt.calls k1 a0 x3_1 t125 _ A3.out).mono ?_); rintro e w' ⟨rfl, ⟨nd, rfl⟩⟩; refine ⟨_, rfl, ?_⟩))
          go_roundg k1
          case measure => have := HK1.out; omega
          case rel => exact ⟨(wrap64 (x3_1 + t125)), (by first | rfl | (simp; done) | (simp [*]; done)), H', ⟨by have := HK1.out; omega⟩, by repeat (first | exact Drawn0.refl _ | apply Drawn0.step)⟩
      · rw [if_neg c2] at H
        have c2b0 : decide (x3_1 < (a0.size : Int)) = false := decide_eq_false c2
        clear c2
        obtain rfl := Option.some.inj H
        go_wp2
        go_ret
        exact ⟨by first | rfl | (simp; done) | (simp [*]; done), by repeat (first | exact Drawn0.refl _ | apply Drawn0.step)⟩

end Go.Proofs.YtjdjlccdidfgoaaDoor.H
end
section
-- Laid by this session's hprint.py, out of the kit's print.py and texts of the session. Not trusted: Lean checks it.
namespace Go.Proofs.YtjdjlccdidfgoaaDoor.H
open Go.RowKit Go.Proofs.YtjdjlccdidfgoaaDoorW.PrintWords Go.Proofs.YtjdjlccdidfgoaaDoorW.PrintLast Go.Proofs.YtjdjlccdidfgoaaDoorW.PrintMore
attribute [local go_sem] max2_int min2_int max_two min_two max_three min_three max_four min_four   -- for this text's walks alone
set_option linter.unusedVariables false
set_option linter.unusedSimpArgs false

/-! ### marquetryref16_named: function 29 -/
def marquetryref16_named.f (k : Nat) (a0 : ByteArray) : Option (Bool) := if (a0.size : Int) ≥ 1 then (if (a0.size : Int) ≤ 64 then ((marquetryref16_UTF8.f k a0).bind fun t126 => (some t126)) else (some false)) else (some false)
set_option maxHeartbeats 8000000 in
set_option maxRecDepth 100000 in
theorem marquetryref16_named.calls (k : Nat) (a0 : ByteArray) (r : Bool) (w : World) (h : marquetryref16_named.f k a0 = some r) :
    Calls Tryd.prog 29 #[.string a0] w fun e w' => e = .returned (.bool r) ∧ Drawn0 w w' := by
  have H : (if (a0.size : Int) ≥ 1 then (if (a0.size : Int) ≤ 64 then ((marquetryref16_UTF8.f k a0).bind fun t126 => (some t126)) else (some false)) else (some false)) = some r := h
  clear h
  by_cases c2 : (a0.size : Int) ≥ 1
  · rw [if_pos c2] at H
    have c2b0 : decide (1 ≤ (a0.size : Int)) = true := decide_eq_true c2
    have c2b1 : decide (1 ≤ a0.size) = true := decide_eq_true (by omega)
    clear c2
    by_cases c3 : (a0.size : Int) ≤ 64
    · rw [if_pos c3] at H
      have c3b0 : decide ((a0.size : Int) ≤ 64) = true := decide_eq_true c3
      have c3b1 : decide (a0.size ≤ 64) = true := decide_eq_true (by omega)
      clear c3
      replace H := Option.bind_eq_some_iff.mp H
      obtain ⟨t126, A40, H⟩ := H
      replace H : (some t126) = some r := H
      have A4 := Aside0.mk A40
      clear A40
      obtain rfl := Option.some.inj H
      go_enter Tryd.func29, Tryd.ntmps29
      go_wp2_with (first | (go_at_call 54; (with_reducible refine (marquetryref16_UTF8.calls k a0 t126 _ A4.out).mono ?_); rintro e w' ⟨rfl, ⟨nd, rfl⟩⟩))
      go_ret
      exact ⟨by first | rfl | (simp; done) | (simp [*]; done), by repeat (first | exact Drawn0.refl _ | apply Drawn0.step)⟩
    · rw [if_neg c3] at H
      have c3b0 : decide ((a0.size : Int) ≤ 64) = false := decide_eq_false c3
      have c3b1 : decide (a0.size ≤ 64) = false := decide_eq_false (by omega)
      clear c3
      obtain rfl := Option.some.inj H
      go_enter Tryd.func29, Tryd.ntmps29
      go_wp2
      go_ret
      exact ⟨by first | rfl | (simp; done) | (simp [*]; done), by repeat (first | exact Drawn0.refl _ | apply Drawn0.step)⟩
  · rw [if_neg c2] at H
    have c2b0 : decide (1 ≤ (a0.size : Int)) = false := decide_eq_false c2
    have c2b1 : decide (1 ≤ a0.size) = false := decide_eq_false (by omega)
    clear c2
    obtain rfl := Option.some.inj H
    go_enter Tryd.func29, Tryd.ntmps29
    go_wp2
    go_ret
    exact ⟨by first | rfl | (simp; done) | (simp [*]; done), by repeat (first | exact Drawn0.refl _ | apply Drawn0.step)⟩

end Go.Proofs.YtjdjlccdidfgoaaDoor.H
end
section
-- Laid by this session's hprint.py, out of the kit's print.py and texts of the session. Not trusted: Lean checks it.
namespace Go.Proofs.YtjdjlccdidfgoaaDoor.H
open Go.RowKit Go.Proofs.YtjdjlccdidfgoaaDoorW.PrintWords Go.Proofs.YtjdjlccdidfgoaaDoorW.PrintLast Go.Proofs.YtjdjlccdidfgoaaDoorW.PrintMore
attribute [local go_sem] max2_int min2_int max_two min_two max_three min_three max_four min_four   -- for this text's walks alone
set_option linter.unusedVariables false
set_option linter.unusedSimpArgs false

/-! ### marquetryref16_deep: function 30 -/
mutual
def marquetryref16_deep.j0 : Nat → List (S62) → Int → Bool → Option (Int)
  | 0, _, _, _ => none
  | k + 1, x0, x1, x13 => if x13 = true then (some 0) else (marquetryref16_deep.l0 k x0 x1 0 0)
def marquetryref16_deep.l0 : Nat → List (S62) → Int → Int → Int → Option (Int)
  | 0, _, _, _, _ => none
  | k + 1, x0, x1, x5, x6 => if x6 < (x0.length : Int) then (if 0 ≤ x6 then ((marquetryref16_deep.f k ((rd_T62 x0 x6).f5) (wrap64 (x1 - 1))).bind fun t128 => (marquetryref16_deep.l0 k x0 x1 (mx x5 t128) (wrap64 (x6 + 1)))) else (none)) else (some (wrap64 (1 + x5)))
def marquetryref16_deep.f : Nat → List (S62) → Int → Option (Int)
  | 0, _, _ => none
  | k + 1, l0, a1 => if (l0.length : Int) = 0 then (marquetryref16_deep.j0 k l0 a1 true) else (marquetryref16_deep.j0 k l0 a1 (a1 == 0))
end
set_option maxHeartbeats 8000000 in
set_option maxRecDepth 100000 in
theorem marquetryref16_deep.calls (k : Nat) : ∀ (A0 : Option Addr) (c0 : Nat) (l0 : List (S62)) (a1 : Int) (r : Int) (w : World) (hr0 : Kd.C k62 w A0 l0.length l0) (hc0 : l0.length ≤ c0) (h : marquetryref16_deep.f k l0 a1 = some r),
    Calls Tryd.prog 30 #[.slice A0 l0.length c0, .int .i64 a1] w fun e w' => e = .returned (.int .i64 r) ∧ Below w.heap.size w w' := by
  induction k using Nat.strongRecOn with
  | _ k ih =>
  intro A0 c0 l0 a1 r w hr0 hc0 h
  cases k with
  | zero => exact absurd h (by simp [marquetryref16_deep.f])
  | succ k =>
  simp only [marquetryref16_deep.f] at h
  have HR0 := Aside0.mk hr0
  have HC0 := Aside0.mk hc0
  clear hr0 hc0
  have HB := Aside0.mk (Below.refl w.heap.size w)
  have H : (if (l0.length : Int) = 0 then (marquetryref16_deep.j0 k l0 a1 true) else (marquetryref16_deep.j0 k l0 a1 (a1 == 0))) = some r := h
  clear h
  have HC3 := Aside0.mk H
  clear H
  go_enter Tryd.func30, Tryd.ntmps30
  go_upto_region 1 with (fail)
  go_cut [13] (fun v13 wc => ∃ (kq : Nat) (x13_2 : Bool), v13 = .bool x13_2 ∧ Aside0 (marquetryref16_deep.j0 kq l0 a1 x13_2 = some r) ∧ Aside0 (kq ≤ k) ∧ Aside0 (Below w.heap.size w wc))
  case first =>
    have H := HC3.out
    clear HC3
    by_cases c4 : (l0.length : Int) = 0
    · rw [if_pos c4] at H
      have c4b0 : ((l0.length : Int) == 0) = true := beq_iff_eq.mpr c4
      have c4b1 : ((l0.length : Int) != 0) = false := bne_eq_false_iff_eq.mpr c4
      clear c4
      (first | rw [c4b0] | (simp only [i64_w, i32_w]; rw [c4b0]) | skip)
      have H' := Aside0.mk H
      clear H
      go_wp2
      go_meet
      case rel => exact ⟨_, (true), (by first | rfl | (simp; done) | (simp [*]; done)), H', ⟨by first | omega | exact Nat.le_refl _⟩, ⟨by repeat (first | (with_reducible first | exact HB.out | apply below_alloc | apply pw_below_drewN | apply below_drew1) | exact HB.out)⟩⟩
    · rw [if_neg c4] at H
      have c4b0 : ((l0.length : Int) == 0) = false := beq_eq_false_iff_ne.mpr c4
      have c4b1 : ((l0.length : Int) != 0) = true := bne_iff_ne.mpr c4
      have c4b2 : ¬ (l0 = []) := fun h_ => c4 (by rw [h_]; rfl)
      (first | rw [c4b0] | (simp only [i64_w, i32_w]; rw [c4b0]) | skip)
      have H' := Aside0.mk H
      clear H
      go_wp2
      go_meet
      case rel => exact ⟨_, ((a1 == 0)), (by first | rfl | (simp; done) | (simp [*]; done)), H', ⟨by first | omega | exact Nat.le_refl _⟩, ⟨by repeat (first | (with_reducible first | exact HB.out | apply below_alloc | apply pw_below_drewN | apply below_drew1) | exact HB.out)⟩⟩
  case rest =>
    clear HC3
    try clear p2
    try clear c3
    try clear c4
    try clear c4b0
    try clear c4b1
    try clear c4b2
    obtain ⟨kq, x13_2, rfl, HA, HJ2, HB⟩ := hcut
    cases kq with
    | zero => exact absurd HA.out (by simp [marquetryref16_deep.j0])
    | succ kj2 =>
      have H := HA.out
      clear HA
      simp only [marquetryref16_deep.j0] at H
      by_cases c5 : x13_2 = true
      · subst c5
        have H1 : (some 0) = some r := by rw [if_pos rfl] at H; exact H
        clear H
        have H := H1
        clear H1
        obtain rfl := Option.some.inj H
        go_wp2
        go_ret
        exact ⟨by first | rfl | (simp [errW_none, errW_some] <;> rfl) | (simp [*, errW_none, errW_some] <;> rfl), by repeat (first | (with_reducible first | exact HB.out | apply below_alloc | apply pw_below_drewN | apply below_drew1) | exact HB.out)⟩
      · replace c5 := Bool.eq_false_iff.mpr c5
        subst c5
        have H1 : (marquetryref16_deep.l0 kj2 l0 a1 0 0) = some r := by rw [if_neg (show ¬ (false = true) by decide)] at H; exact H
        clear H
        have H := H1
        clear H1
        have H' := Aside0.mk H
        clear H
        go_wp2
        go_loopg [5, 6] kj2 (fun kq v5 v6 w' => ∃ (x5_2 : Int) (x6_2 : Int), v5 = .int .i64 x5_2 ∧ v6 = .int .i64 x6_2 ∧ Aside0 (marquetryref16_deep.l0 kq l0 a1 x5_2 x6_2 = some r) ∧ Aside0 (kq ≤ kj2) ∧ Aside0 (Below w.heap.size w w'))
        case atStart => exact ⟨(0), (0), (by first | rfl | (simp; done) | (simp [*]; done)), (by first | rfl | (simp; done) | (simp [*]; done)), H', ⟨Nat.le_refl _⟩, ⟨by repeat (first | (with_reducible first | exact HB.out | apply below_alloc | apply pw_below_drewN | apply below_drew1) | exact HB.out)⟩⟩
        case round =>
          clear H'
          try clear p2
          try clear c3
          try clear c4
          try clear c4b0
          try clear c4b1
          try clear c4b2
          try clear c5
          try clear p2
          obtain ⟨x5_2, x6_2, rfl, rfl, HA, HK2, HB⟩ := hrel
          cases gk with
          | zero => exact absurd HA.out (by simp [marquetryref16_deep.l0])
          | succ k2 =>
            have H := HA.out
            clear HA
            simp only [marquetryref16_deep.l0] at H
            by_cases c6 : x6_2 < (l0.length : Int)
            · rw [if_pos c6] at H
              have c6b0 : decide (x6_2 < (l0.length : Int)) = true := decide_eq_true c6
              clear c6
              by_cases c7 : 0 ≤ x6_2
              · rw [if_pos c7] at H
                have c7b0 : decide (0 ≤ x6_2) = true := decide_eq_true c7
                clear c7
                replace H := Option.bind_eq_some_iff.mp H
                obtain ⟨t128, A80, H⟩ := H
                replace H : (marquetryref16_deep.l0 k2 l0 a1 (mx x5_2 t128) (wrap64 (x6_2 + 1))) = some r := H
                have A8 := Aside0.mk A80
                clear A80
                obtain ⟨ji9, hji9⟩ : ∃ j_ : Int, (mx x5_2 t128) = j_ := ⟨_, rfl⟩
                replace H : (marquetryref16_deep.l0 k2 l0 a1 ji9 (wrap64 (x6_2 + 1))) = some r := by first | (rw [hji9] at H; exact H) | (simp only [hji9] at H ⊢; exact H)
                (try rw [hji9] at A8)
                have hji9_ : (if x5_2 < t128 then t128 else x5_2) = ji9 := hji9
                have H' := Aside0.mk H
                clear H
                have p127 : 0 ≤ (x6_2 : Int) := of_decide_eq_true (by first | (with_reducible assumption) | assumption)
                have q127 : x6_2 < (l0.length : Int) := of_decide_eq_true (by first | (with_reducible assumption) | assumption)
                obtain ⟨ad127, A127_5, c127_5, e127, hx127_0, hx127_1, hx127_2, hx127_3, hx127_4, hx127_5, hl127_5, hi127_5⟩ := at_T62 HR0.out x6_2 p127 q127
                cases e127
                replace hx127_0 := (HB.out.cell (World.block_lt_of_cell? w _ hx127_0)).trans hx127_0
                replace hx127_1 := (HB.out.cell (World.block_lt_of_cell? w _ hx127_1)).trans hx127_1
                replace hx127_2 := (HB.out.cell (World.block_lt_of_cell? w _ hx127_2)).trans hx127_2
                replace hx127_3 := (HB.out.cell (World.block_lt_of_cell? w _ hx127_3)).trans hx127_3
                replace hx127_4 := (HB.out.cell (World.block_lt_of_cell? w _ hx127_4)).trans hx127_4
                replace hx127_5 := (HB.out.cell (World.block_lt_of_cell? w _ hx127_5)).trans hx127_5
                have HR127_5 := Aside0.mk hi127_5
                have HC127_5 := Aside0.mk hl127_5
                clear hi127_5 hl127_5
                replace p127 := eq_true p127
                replace q127 := eq_true q127
                go_wp2_with (first | ((with_reducible refine gate_callee (f := 30) rfl ?_); refine goesL_ (some 28) rfl rfl Tryd.func30 (by kernel_rfl) rfl #[.slice A127_5 ((rd_T62 l0 x6_2).f5).length c127_5, .int .i64 (wrap64 (a1 - 1))] rfl (by (try simp only [List.map_toArray, List.map_cons, List.map_nil]); first | done | rfl | (simp only [List.length_drop, List.length_take]; rfl)) ?_; (with_reducible refine (ih k2 (by have := HJ2.out; have := HK2.out; omega) _ _ ((rd_T62 l0 x6_2).f5) (wrap64 (a1 - 1)) t128 _ ?side1 ?side2 A8.out).mono ?_); (case side1 => repeat (first | exact (Kd.C_below HR127_5.out HB.out) | (with_reducible refine Kd.C_alloc ?_ _) | (with_reducible refine Kd.C_drewN ?_ _) | (with_reducible refine Kd.C_drew ?_))); (case side2 => exact HC127_5.out); rintro e w10 ⟨rfl, hb⟩; refine ⟨_, rfl, ?_⟩; have n0_ := Aside0.mk (below_step (by repeat (first | (with_reducible first | exact HB.out | apply below_alloc | apply pw_below_drewN | apply below_drew1) | exact HB.out)) hb); clear HB; have HB := n0_; clear n0_; (try clear hb); (try clear hb2); (try clear hk); (try clear hi)))
                go_roundg k2
                case measure => have := HJ2.out; have := HK2.out; omega
                case rel => exact ⟨(ji9), (wrap64 (x6_2 + 1)), (by first | rfl | (simp; done) | (simp only [← hji9] <;> (first | rfl | simp)) | (simp [*]; done)), (by first | rfl | (simp; done) | (simp [*]; done)), H', ⟨by have := HJ2.out; have := HK2.out; omega⟩, ⟨by repeat (first | (with_reducible first | exact HB.out | apply below_alloc | apply pw_below_drewN | apply below_drew1) | exact HB.out)⟩⟩
              · rw [if_neg c7] at H
                exact absurd H (by simp)
            · rw [if_neg c6] at H
              have c6b0 : decide (x6_2 < (l0.length : Int)) = false := decide_eq_false c6
              clear c6
              obtain rfl := Option.some.inj H
              go_wp2
              go_ret
              exact ⟨by first | rfl | (simp [errW_none, errW_some] <;> rfl) | (simp [*, errW_none, errW_some] <;> rfl), by repeat (first | (with_reducible first | exact HB.out | apply below_alloc | apply pw_below_drewN | apply below_drew1) | exact HB.out)⟩

end Go.Proofs.YtjdjlccdidfgoaaDoor.H
end
section
-- Laid by this session's hprint.py, out of the kit's print.py and texts of the session. Not trusted: Lean checks it.
namespace Go.Proofs.YtjdjlccdidfgoaaDoor.H
open Go.RowKit Go.Proofs.YtjdjlccdidfgoaaDoorW.PrintWords Go.Proofs.YtjdjlccdidfgoaaDoorW.PrintLast Go.Proofs.YtjdjlccdidfgoaaDoorW.PrintMore
attribute [local go_sem] max2_int min2_int max_two min_two max_three min_three max_four min_four   -- for this text's walks alone
set_option linter.unusedVariables false
set_option linter.unusedSimpArgs false

/-! ### marquetryref09_Check: function 55 -/
def marquetryref09_Check.j0 : Nat → Int → Bool → Int → Int → Option (Bool)
  | 0, _, _, _, _ => none
  | k + 1, x4, x5, x130000, x130001 => if x5 = true then (some (x130001 == 0)) else (if x4 = 7 then (if x130001 ≥ 1 then (some (decide (x130001 ≤ 1048576))) else (some false)) else (some false))
def marquetryref09_Check.f (k : Nat) (a0_0 : Int) (a0_1 : Int) : Option (Bool) := if a0_0 = 0 then (marquetryref09_Check.j0 k a0_0 (a0_0 == 0) a0_0 a0_1) else (if a0_0 = 1 then (marquetryref09_Check.j0 k a0_0 (a0_0 == 1) a0_0 a0_1) else (if a0_0 = 2 then (marquetryref09_Check.j0 k a0_0 (a0_0 == 2) a0_0 a0_1) else (if a0_0 = 4 then (marquetryref09_Check.j0 k a0_0 (a0_0 == 4) a0_0 a0_1) else (if a0_0 = 5 then (marquetryref09_Check.j0 k a0_0 (a0_0 == 5) a0_0 a0_1) else (marquetryref09_Check.j0 k a0_0 (a0_0 == 6) a0_0 a0_1)))))
theorem marquetryref09_Check.mono_l : ∀ k, (∀ y0 y1 y2 y3, LeO (marquetryref09_Check.j0 k y0 y1 y2 y3) (marquetryref09_Check.j0 (k + 1) y0 y1 y2 y3))
  | 0 => fun _ _ _ _ r h => by simp [marquetryref09_Check.j0] at h
  | k + 1 => by
    have ih0 := marquetryref09_Check.mono_l k
    · intro y0 y1 y2 y3
      unfold marquetryref09_Check.j0
      repeat' first
      | (with_reducible exact ih0 _ _ _ _)
      | (with_reducible exact LeO.refl _)
      | (with_reducible exact LeO.none _)
      | (with_reducible refine LeO.ite ?_ ?_)
      | (with_reducible refine LeO.bind ?_ (fun _ => ?_))
      | exact ih0 _ _ _ _
      | exact LeO.none _
      | refine LeO.ite ?_ ?_
      | refine LeO.bind ?_ (fun _ => ?_)
theorem marquetryref09_Check.mono : ∀ a0 a1 k, LeO (marquetryref09_Check.f k a0 a1) (marquetryref09_Check.f (k + 1) a0 a1) := by
  intro a0 a1 k
  have ih0 := marquetryref09_Check.mono_l k
  unfold marquetryref09_Check.f
  repeat' first
      | (with_reducible exact ih0 _ _ _ _)
      | (with_reducible exact LeO.refl _)
      | (with_reducible exact LeO.none _)
      | (with_reducible refine LeO.ite ?_ ?_)
      | (with_reducible refine LeO.bind ?_ (fun _ => ?_))
      | exact ih0 _ _ _ _
      | exact LeO.none _
      | refine LeO.ite ?_ ?_
      | refine LeO.bind ?_ (fun _ => ?_)
set_option maxHeartbeats 8000000 in
set_option maxRecDepth 100000 in
theorem marquetryref09_Check.calls (k : Nat) (a0_0 : Int) (a0_1 : Int) (r : Bool) (w : World) (h : marquetryref09_Check.f k a0_0 a0_1 = some r) :
    Calls Tryd.prog 55 #[.agg #[.int .i64 a0_0, .int .i64 a0_1]] w fun e w' => e = .returned (.bool r) ∧ Below w.heap.size w w' := by
  have hu50 := Tryd.underlying50
  have HB := Aside0.mk (Below.refl w.heap.size w)
  have H : (if a0_0 = 0 then (marquetryref09_Check.j0 k a0_0 (a0_0 == 0) a0_0 a0_1) else (if a0_0 = 1 then (marquetryref09_Check.j0 k a0_0 (a0_0 == 1) a0_0 a0_1) else (if a0_0 = 2 then (marquetryref09_Check.j0 k a0_0 (a0_0 == 2) a0_0 a0_1) else (if a0_0 = 4 then (marquetryref09_Check.j0 k a0_0 (a0_0 == 4) a0_0 a0_1) else (if a0_0 = 5 then (marquetryref09_Check.j0 k a0_0 (a0_0 == 5) a0_0 a0_1) else (marquetryref09_Check.j0 k a0_0 (a0_0 == 6) a0_0 a0_1)))))) = some r := h
  clear h
  have HC2 := Aside0.mk H
  clear H
  go_enter Tryd.func55, Tryd.ntmps55
  go_upto_if 5 with (first | ((with_reducible refine gate_dst (N := 1) rfl ?_); refine box_event ?hg (N := 1) ?hd (cs := #[.int .i64 a0_0, .int .i64 a0_1]) (t := 50) ?hr ?_; (case hd => rfl); (case hg => rfl); (case hr => first | (go_simp; done) | (go_simp; rfl)); intro gb129 hg w3 hbox hb; have n0_ := Aside0.mk (below_step (by repeat (first | (with_reducible first | exact HB.out | apply below_alloc | apply pw_below_drewN | apply below_drew1) | exact HB.out)) hb); have n1_ := Aside0.mk (hbox); have n2_ := Aside0.mk ((by rw [hg]; exact (below_size (by repeat (first | (with_reducible first | exact HB.out | apply below_alloc | apply pw_below_drewN | apply below_drew1) | exact HB.out))) : w.heap.size ≤ gb129)); have n3_ := Aside0.mk ((by rw [hg]; exact (below_size (by repeat (first | (with_reducible first | exact HB.out | apply below_alloc | apply pw_below_drewN | apply below_drew1) | exact HB.out))) : w.heap.size ≤ gb129)); clear HB; have HB := n0_; have BK129 := n1_; have GW129 := n2_; have GE129 := n3_; clear n0_ n1_ n2_ n3_; clear hb hbox hg; have hcz4_0 : w3.cell? ⟨gb129, 0, none⟩ = some (.int .i64 a0_0) := (blk_cell BK129.out 0).trans rfl; have hcz4_1 : w3.cell? ⟨gb129, 1, none⟩ = some (.int .i64 a0_1) := (blk_cell BK129.out 1).trans rfl; have hfz4_0 := blk_frozen BK129.out 0; have hfz4_1 := blk_frozen BK129.out 1))
  (try simp only [Act.put, List.setIfInBounds_toArray, List.set_cons_zero, List.set_cons_succ])
  go_cut [5] (fun v5 wc => ∃ (kq : Nat) (x5_1 : Bool), v5 = .bool x5_1 ∧ Aside0 (marquetryref09_Check.j0 kq a0_0 x5_1 a0_0 a0_1 = some r) ∧ Aside0 (kq ≤ k) ∧ Aside0 (wc.heap[gb129]? = some (.cells #[.int .i64 a0_0, .int .i64 a0_1] 50 (0, 0))) ∧ Aside0 (Below w.heap.size w wc))
  case first =>
    have H := HC2.out
    clear HC2
    by_cases c5 : a0_0 = 0
    · rw [if_pos c5] at H
      have c5b0 : (a0_0 == 0) = true := beq_iff_eq.mpr c5
      have c5b1 : (a0_0 != 0) = false := bne_eq_false_iff_eq.mpr c5
      clear c5
      (first | rw [c5b0] | (simp only [i64_w, i32_w]; rw [c5b0]) | skip)
      have H' := Aside0.mk H
      clear H
      go_wp2
      go_meet
      case rel => exact ⟨_, ((a0_0 == 0)), (by first | rfl | (simp; done) | (simp [*]; done)), H', ⟨by first | omega | exact Nat.le_refl _⟩, ⟨by (with_reducible repeat (first | refine blk_drewN ?_ _ | refine blk_drew ?_ | refine blk_alloc ?_ _)); exact BK129.out⟩, ⟨by repeat (first | (with_reducible first | exact HB.out | apply below_alloc | apply pw_below_drewN | apply below_drew1 | refine below_set ?_ GE129.out) | exact HB.out)⟩⟩
    · rw [if_neg c5] at H
      have c5b0 : (a0_0 == 0) = false := beq_eq_false_iff_ne.mpr c5
      have c5b1 : (a0_0 != 0) = true := bne_iff_ne.mpr c5
      (first | rw [c5b0] | (simp only [i64_w, i32_w]; rw [c5b0]) | skip)
      by_cases c6 : a0_0 = 1
      · rw [if_pos c6] at H
        have c6b0 : (a0_0 == 1) = true := beq_iff_eq.mpr c6
        have c6b1 : (a0_0 != 1) = false := bne_eq_false_iff_eq.mpr c6
        clear c6
        have H' := Aside0.mk H
        clear H
        go_wp2
        go_meet
        case rel => exact ⟨_, ((a0_0 == 1)), (by first | rfl | (simp; done) | (simp [*]; done)), H', ⟨by first | omega | exact Nat.le_refl _⟩, ⟨by (with_reducible repeat (first | refine blk_drewN ?_ _ | refine blk_drew ?_ | refine blk_alloc ?_ _)); exact BK129.out⟩, ⟨by repeat (first | (with_reducible first | exact HB.out | apply below_alloc | apply pw_below_drewN | apply below_drew1 | refine below_set ?_ GE129.out) | exact HB.out)⟩⟩
      · rw [if_neg c6] at H
        have c6b0 : (a0_0 == 1) = false := beq_eq_false_iff_ne.mpr c6
        have c6b1 : (a0_0 != 1) = true := bne_iff_ne.mpr c6
        by_cases c7 : a0_0 = 2
        · rw [if_pos c7] at H
          have c7b0 : (a0_0 == 2) = true := beq_iff_eq.mpr c7
          have c7b1 : (a0_0 != 2) = false := bne_eq_false_iff_eq.mpr c7
          clear c7
          have H' := Aside0.mk H
          clear H
          go_wp2
          go_meet
          case rel => exact ⟨_, ((a0_0 == 2)), (by first | rfl | (simp; done) | (simp [*]; done)), H', ⟨by first | omega | exact Nat.le_refl _⟩, ⟨by (with_reducible repeat (first | refine blk_drewN ?_ _ | refine blk_drew ?_ | refine blk_alloc ?_ _)); exact BK129.out⟩, ⟨by repeat (first | (with_reducible first | exact HB.out | apply below_alloc | apply pw_below_drewN | apply below_drew1 | refine below_set ?_ GE129.out) | exact HB.out)⟩⟩
        · rw [if_neg c7] at H
          have c7b0 : (a0_0 == 2) = false := beq_eq_false_iff_ne.mpr c7
          have c7b1 : (a0_0 != 2) = true := bne_iff_ne.mpr c7
          by_cases c8 : a0_0 = 4
          · rw [if_pos c8] at H
            have c8b0 : (a0_0 == 4) = true := beq_iff_eq.mpr c8
            have c8b1 : (a0_0 != 4) = false := bne_eq_false_iff_eq.mpr c8
            clear c8
            have H' := Aside0.mk H
            clear H
            go_wp2
            go_meet
            case rel => exact ⟨_, ((a0_0 == 4)), (by first | rfl | (simp; done) | (simp [*]; done)), H', ⟨by first | omega | exact Nat.le_refl _⟩, ⟨by (with_reducible repeat (first | refine blk_drewN ?_ _ | refine blk_drew ?_ | refine blk_alloc ?_ _)); exact BK129.out⟩, ⟨by repeat (first | (with_reducible first | exact HB.out | apply below_alloc | apply pw_below_drewN | apply below_drew1 | refine below_set ?_ GE129.out) | exact HB.out)⟩⟩
          · rw [if_neg c8] at H
            have c8b0 : (a0_0 == 4) = false := beq_eq_false_iff_ne.mpr c8
            have c8b1 : (a0_0 != 4) = true := bne_iff_ne.mpr c8
            by_cases c9 : a0_0 = 5
            · rw [if_pos c9] at H
              have c9b0 : (a0_0 == 5) = true := beq_iff_eq.mpr c9
              have c9b1 : (a0_0 != 5) = false := bne_eq_false_iff_eq.mpr c9
              clear c9
              have H' := Aside0.mk H
              clear H
              go_wp2
              go_meet
              case rel => exact ⟨_, ((a0_0 == 5)), (by first | rfl | (simp; done) | (simp [*]; done)), H', ⟨by first | omega | exact Nat.le_refl _⟩, ⟨by (with_reducible repeat (first | refine blk_drewN ?_ _ | refine blk_drew ?_ | refine blk_alloc ?_ _)); exact BK129.out⟩, ⟨by repeat (first | (with_reducible first | exact HB.out | apply below_alloc | apply pw_below_drewN | apply below_drew1 | refine below_set ?_ GE129.out) | exact HB.out)⟩⟩
            · rw [if_neg c9] at H
              have c9b0 : (a0_0 == 5) = false := beq_eq_false_iff_ne.mpr c9
              have c9b1 : (a0_0 != 5) = true := bne_iff_ne.mpr c9
              have H' := Aside0.mk H
              clear H
              go_wp2
              go_meet
              case rel => exact ⟨_, ((a0_0 == 6)), (by first | rfl | (simp; done) | (simp [*]; done)), H', ⟨by first | omega | exact Nat.le_refl _⟩, ⟨by (with_reducible repeat (first | refine blk_drewN ?_ _ | refine blk_drew ?_ | refine blk_alloc ?_ _)); exact BK129.out⟩, ⟨by repeat (first | (with_reducible first | exact HB.out | apply below_alloc | apply pw_below_drewN | apply below_drew1 | refine below_set ?_ GE129.out) | exact HB.out)⟩⟩
  case rest =>
    clear HC2
    try clear p2
    try clear c5
    try clear c5b0
    try clear c5b1
    try clear c6
    try clear c6b0
    try clear c6b1
    try clear c7
    try clear c7b0
    try clear c7b1
    try clear c8
    try clear c8b0
    try clear c8b1
    try clear c9
    try clear c9b0
    try clear c9b1
    try clear hcz4_0
    try clear hcz4_1
    try clear hfz4_0
    try clear hfz4_1
    obtain ⟨kq, x5_1, rfl, HA, HJ1, BK129, HB⟩ := hcut
    cases kq with
    | zero => exact absurd HA.out (by simp [marquetryref09_Check.j0])
    | succ kj1 =>
      have H := HA.out
      clear HA
      simp only [marquetryref09_Check.j0] at H
      by_cases c10 : x5_1 = true
      · subst c10
        have H1 : (some (a0_1 == 0)) = some r := by rw [if_pos rfl] at H; exact H
        clear H
        have H := H1
        clear H1
        obtain rfl := Option.some.inj H
        have hcz11_0 : wc.cell? ⟨gb129, 0, none⟩ = some (.int .i64 a0_0) := (blk_cell BK129.out 0).trans rfl
        have hcz11_1 : wc.cell? ⟨gb129, 1, none⟩ = some (.int .i64 a0_1) := (blk_cell BK129.out 1).trans rfl
        have hfz11_0 := blk_frozen BK129.out 0
        have hfz11_1 := blk_frozen BK129.out 1
        go_wp2
        go_ret
        exact ⟨by first | rfl | (simp [errW_none, errW_some] <;> rfl) | (simp [*, errW_none, errW_some] <;> rfl), by repeat (first | (with_reducible first | exact HB.out | apply below_alloc | apply pw_below_drewN | apply below_drew1 | refine below_set ?_ GE129.out) | exact HB.out)⟩
      · replace c10 := Bool.eq_false_iff.mpr c10
        subst c10
        have H1 : (if a0_0 = 7 then (if a0_1 ≥ 1 then (some (decide (a0_1 ≤ 1048576))) else (some false)) else (some false)) = some r := by rw [if_neg (show ¬ (false = true) by decide)] at H; exact H
        clear H
        have H := H1
        clear H1
        by_cases c12 : a0_0 = 7
        · rw [if_pos c12] at H
          have c12b0 : (a0_0 == 7) = true := beq_iff_eq.mpr c12
          have c12b1 : (a0_0 != 7) = false := bne_eq_false_iff_eq.mpr c12
          clear c12
          by_cases c13 : a0_1 ≥ 1
          · rw [if_pos c13] at H
            have c13b0 : decide (1 ≤ a0_1) = true := decide_eq_true c13
            clear c13
            obtain rfl := Option.some.inj H
            have hcz14_0 : wc.cell? ⟨gb129, 0, none⟩ = some (.int .i64 a0_0) := (blk_cell BK129.out 0).trans rfl
            have hcz14_1 : wc.cell? ⟨gb129, 1, none⟩ = some (.int .i64 a0_1) := (blk_cell BK129.out 1).trans rfl
            have hfz14_0 := blk_frozen BK129.out 0
            have hfz14_1 := blk_frozen BK129.out 1
            go_wp2
            go_ret
            exact ⟨by first | rfl | (simp [errW_none, errW_some] <;> rfl) | (simp [*, errW_none, errW_some] <;> rfl), by repeat (first | (with_reducible first | exact HB.out | apply below_alloc | apply pw_below_drewN | apply below_drew1 | refine below_set ?_ GE129.out) | exact HB.out)⟩
          · rw [if_neg c13] at H
            have c13b0 : decide (1 ≤ a0_1) = false := decide_eq_false c13
            clear c13
            obtain rfl := Option.some.inj H
            have hcz15_0 : wc.cell? ⟨gb129, 0, none⟩ = some (.int .i64 a0_0) := (blk_cell BK129.out 0).trans rfl
            have hcz15_1 : wc.cell? ⟨gb129, 1, none⟩ = some (.int .i64 a0_1) := (blk_cell BK129.out 1).trans rfl
            have hfz15_0 := blk_frozen BK129.out 0
            have hfz15_1 := blk_frozen BK129.out 1
            go_wp2
            go_ret
            exact ⟨by first | rfl | (simp [errW_none, errW_some] <;> rfl) | (simp [*, errW_none, errW_some] <;> rfl), by repeat (first | (with_reducible first | exact HB.out | apply below_alloc | apply pw_below_drewN | apply below_drew1 | refine below_set ?_ GE129.out) | exact HB.out)⟩
        · rw [if_neg c12] at H
          have c12b0 : (a0_0 == 7) = false := beq_eq_false_iff_ne.mpr c12
          have c12b1 : (a0_0 != 7) = true := bne_iff_ne.mpr c12
          obtain rfl := Option.some.inj H
          go_wp2
          go_ret
          exact ⟨by first | rfl | (simp [errW_none, errW_some] <;> rfl) | (simp [*, errW_none, errW_some] <;> rfl), by repeat (first | (with_reducible first | exact HB.out | apply below_alloc | apply pw_below_drewN | apply below_drew1 | refine below_set ?_ GE129.out) | exact HB.out)⟩

end Go.Proofs.YtjdjlccdidfgoaaDoor.H
end
section
-- Laid by this session's hprint.py, out of the kit's print.py and texts of the session. Not trusted: Lean checks it.
namespace Go.Proofs.YtjdjlccdidfgoaaDoor.H
open Go.RowKit Go.Proofs.YtjdjlccdidfgoaaDoorW.PrintWords Go.Proofs.YtjdjlccdidfgoaaDoorW.PrintLast Go.Proofs.YtjdjlccdidfgoaaDoorW.PrintMore
attribute [local go_sem] max2_int min2_int max_two min_two max_three min_three max_four min_four   -- for this text's walks alone
set_option linter.unusedVariables false
set_option linter.unusedSimpArgs false

/-! ### marquetryref16_fine: function 31 -/
mutual
def marquetryref16_fine.l0 : Nat → List (S62) → Int → Option (Bool)
  | 0, _, _ => none
  | k + 1, x0, x3 => if x3 < (x0.length : Int) then (if 0 ≤ x3 then (marquetryref16_fine.l1 k x0 x3 0 ((rd_T62 x0 x3).f0) ((rd_T62 x0 x3).f1) ((rd_T62 x0 x3).f2) ((rd_T62 x0 x3).f3) ((rd_T62 x0 x3).f4) ((rd_T62 x0 x3).f5)) else (none)) else (some true)
def marquetryref16_fine.l1 : Nat → List (S62) → Int → Int → ByteArray → Int → Bool → Int → Int → List (S62) → Option (Bool)
  | 0, _, _, _, _, _, _, _, _, _ => none
  | k + 1, x0, x3, x5, x132000, x132001, x132002, x132003, x132004, x132005 => if x5 < x3 then (if 0 ≤ x5 then (if x5 < (x0.length : Int) then (if ((rd_T62 x0 x5).f0).toList = x132000.toList then (some false) else (marquetryref16_fine.l1 k x0 x3 (wrap64 (x5 + 1)) x132000 x132001 x132002 x132003 x132004 x132005)) else (none)) else (none)) else ((marquetryref16_named.f k x132000).bind fun t133 => (if t133 = true then (if x132001 < 0 then (marquetryref16_fine.j2 k x0 x3 true x132000 x132001 x132002 x132003 x132004 x132005) else (marquetryref16_fine.j2 k x0 x3 (decide (x132001 > 2)) x132000 x132001 x132002 x132003 x132004 x132005)) else (marquetryref16_fine.j2 k x0 x3 true x132000 x132001 x132002 x132003 x132004 x132005)))
def marquetryref16_fine.j2 : Nat → List (S62) → Int → Bool → ByteArray → Int → Bool → Int → Int → List (S62) → Option (Bool)
  | 0, _, _, _, _, _, _, _, _, _ => none
  | k + 1, x0, x3, x42, x132000, x132001, x132002, x132003, x132004, x132005 => if x42 = true then (some false) else (if x132002 = true then (if (x132005.length : Int) = 0 then (marquetryref16_fine.j3 k x0 x3 true x132000 x132001 x132002 x132003 x132004 x132005) else (if x132003 = 0 then (if x132004 = 0 then ((marquetryref16_fine.f k x132005).bind fun t134 => (marquetryref16_fine.j3 k x0 x3 (!t134) x132000 x132001 x132002 x132003 x132004 x132005)) else (marquetryref16_fine.j3 k x0 x3 true x132000 x132001 x132002 x132003 x132004 x132005)) else (marquetryref16_fine.j3 k x0 x3 true x132000 x132001 x132002 x132003 x132004 x132005))) else (marquetryref16_fine.j3 k x0 x3 false x132000 x132001 x132002 x132003 x132004 x132005))
def marquetryref16_fine.j3 : Nat → List (S62) → Int → Bool → ByteArray → Int → Bool → Int → Int → List (S62) → Option (Bool)
  | 0, _, _, _, _, _, _, _, _, _ => none
  | k + 1, x0, x3, x66, x132000, x132001, x132002, x132003, x132004, x132005 => if x66 = true then (some false) else (if x132002 = true then (marquetryref16_fine.l0 k x0 (wrap64 (x3 + 1))) else (if (x132005.length : Int) > 0 then (some false) else ((marquetryref09_Check.f k x132003 x132004).bind fun t135 => (if t135 = true then (marquetryref16_fine.l0 k x0 (wrap64 (x3 + 1))) else (some false)))))
def marquetryref16_fine.f : Nat → List (S62) → Option (Bool)
  | 0, _ => none
  | k + 1, l0 => marquetryref16_fine.l0 k l0 0
end
set_option maxHeartbeats 8000000 in
set_option maxRecDepth 100000 in
theorem marquetryref16_fine.calls (k : Nat) : ∀ (A0 : Option Addr) (c0 : Nat) (l0 : List (S62)) (r : Bool) (w : World) (hr0 : Kd.C k62 w A0 l0.length l0) (hc0 : l0.length ≤ c0) (h : marquetryref16_fine.f k l0 = some r),
    Calls Tryd.prog 31 #[.slice A0 l0.length c0] w fun e w' => e = .returned (.bool r) ∧ Below w.heap.size w w' := by
  induction k using Nat.strongRecOn with
  | _ k ih =>
  intro A0 c0 l0 r w hr0 hc0 h
  cases k with
  | zero => exact absurd h (by simp [marquetryref16_fine.f])
  | succ k =>
  simp only [marquetryref16_fine.f] at h
  have hu62 := Tryd.underlying62
  have hu50 := Tryd.underlying50
  have HR0 := Aside0.mk hr0
  have HC0 := Aside0.mk hc0
  clear hr0 hc0
  have HB := Aside0.mk (Below.refl w.heap.size w)
  have H : (marquetryref16_fine.l0 k l0 0) = some r := h
  clear h
  have H' := Aside0.mk H
  clear H
  go_enter Tryd.func31, Tryd.ntmps31
  go_wp2
  repeat (go_quiet (fail); try go_wp2)
  go_loopg [3] k (fun kq v3 w' => ∃ (x3_1 : Int), v3 = .int .i64 x3_1 ∧ Aside0 (marquetryref16_fine.l0 kq l0 x3_1 = some r) ∧ Aside0 (kq ≤ k) ∧ Aside0 (Below w.heap.size w w'))
  case atStart => exact ⟨(0), (by first | rfl | (simp; done) | (simp [*]; done)), H', ⟨Nat.le_refl _⟩, ⟨by repeat (first | (with_reducible first | exact HB.out | apply below_alloc | apply pw_below_drewN | apply below_drew1) | exact HB.out)⟩⟩
  case round =>
    clear H'
    obtain ⟨x3_1, rfl, HA, HK1, HB⟩ := hrel
    cases gk with
    | zero => exact absurd HA.out (by simp [marquetryref16_fine.l0])
    | succ k1 =>
      have H := HA.out
      clear HA
      simp only [marquetryref16_fine.l0] at H
      by_cases c2 : x3_1 < (l0.length : Int)
      · rw [if_pos c2] at H
        have c2b0 : decide (x3_1 < (l0.length : Int)) = true := decide_eq_true c2
        clear c2
        by_cases c3 : 0 ≤ x3_1
        · rw [if_pos c3] at H
          have c3b0 : decide (0 ≤ x3_1) = true := decide_eq_true c3
          clear c3
          have H' := Aside0.mk H
          clear H
          have p130 : 0 ≤ (x3_1 : Int) := of_decide_eq_true (by first | (with_reducible assumption) | assumption)
          have q130 : x3_1 < (l0.length : Int) := of_decide_eq_true (by first | (with_reducible assumption) | assumption)
          obtain ⟨ad130, A130_5, c130_5, e130, hx130_0, hx130_1, hx130_2, hx130_3, hx130_4, hx130_5, hl130_5, hi130_5⟩ := at_T62 HR0.out x3_1 p130 q130
          cases e130
          replace hx130_0 := (HB.out.cell (World.block_lt_of_cell? w _ hx130_0)).trans hx130_0
          replace hx130_1 := (HB.out.cell (World.block_lt_of_cell? w _ hx130_1)).trans hx130_1
          replace hx130_2 := (HB.out.cell (World.block_lt_of_cell? w _ hx130_2)).trans hx130_2
          replace hx130_3 := (HB.out.cell (World.block_lt_of_cell? w _ hx130_3)).trans hx130_3
          replace hx130_4 := (HB.out.cell (World.block_lt_of_cell? w _ hx130_4)).trans hx130_4
          replace hx130_5 := (HB.out.cell (World.block_lt_of_cell? w _ hx130_5)).trans hx130_5
          have HR130_5 := Aside0.mk hi130_5
          have HC130_5 := Aside0.mk hl130_5
          clear hi130_5 hl130_5
          replace p130 := eq_true p130
          replace q130 := eq_true q130
          go_wp2_with (first | ((with_reducible refine gate_dst (N := 4) rfl ?_); (try (refine gate_guard (by rfl) ?_; dsimp only)); refine box_event ?hg (N := 4) ?hd (cs := #[.string (⟨#[]⟩ : ByteArray), .int .i64 0, .bool false, .int .i64 0, .int .i64 0, .slice none 0 0]) (t := 62) ?hr ?_; (case hd => rfl); (case hg => rfl); (case hr => first | (go_simp; done) | (go_simp; rfl)); intro gb131 hg w4 hbox hb; have n0_ := Aside0.mk (below_step (by repeat (first | (with_reducible first | exact HB.out | apply below_alloc | apply pw_below_drewN | apply below_drew1) | exact HB.out)) hb); have n1_ := Aside0.mk (hbox); have n2_ := Aside0.mk ((by rw [hg]; exact (below_size (by repeat (first | (with_reducible first | exact HB.out | apply below_alloc | apply pw_below_drewN | apply below_drew1) | exact HB.out))) : w.heap.size ≤ gb131)); have n3_ := Aside0.mk ((by rw [hg]; exact (below_size (by repeat (first | (with_reducible first | exact HB.out | apply below_alloc | apply pw_below_drewN | apply below_drew1) | exact HB.out))) : w.heap.size ≤ gb131)); clear HB; have HB := n0_; have BK131 := n1_; have GW131 := n2_; have GE131 := n3_; clear n0_ n1_ n2_ n3_; clear hb hbox hg; have hcz5_0 : w4.cell? ⟨gb131, 0, none⟩ = some (.string (⟨#[]⟩ : ByteArray)) := (blk_cell BK131.out 0).trans rfl; have hcz5_1 : w4.cell? ⟨gb131, 1, none⟩ = some (.int .i64 0) := (blk_cell BK131.out 1).trans rfl; have hcz5_2 : w4.cell? ⟨gb131, 2, none⟩ = some (.bool false) := (blk_cell BK131.out 2).trans rfl; have hcz5_3 : w4.cell? ⟨gb131, 3, none⟩ = some (.int .i64 0) := (blk_cell BK131.out 3).trans rfl; have hcz5_4 : w4.cell? ⟨gb131, 4, none⟩ = some (.int .i64 0) := (blk_cell BK131.out 4).trans rfl; have hcz5_5 : w4.cell? ⟨gb131, 5, none⟩ = some (.slice none 0 0) := (blk_cell BK131.out 5).trans rfl; have hfz5_0 := blk_frozen BK131.out 0; have hfz5_1 := blk_frozen BK131.out 1; have hfz5_2 := blk_frozen BK131.out 2; have hfz5_3 := blk_frozen BK131.out 3; have hfz5_4 := blk_frozen BK131.out 4; have hfz5_5 := blk_frozen BK131.out 5))
          repeat (go_quiet (first | ((with_reducible refine gate_dst (N := 4) rfl ?_); (try (refine gate_guard (by rfl) ?_; dsimp only)); refine box_event ?hg (N := 4) ?hd (cs := #[.string (⟨#[]⟩ : ByteArray), .int .i64 0, .bool false, .int .i64 0, .int .i64 0, .slice none 0 0]) (t := 62) ?hr ?_; (case hd => rfl); (case hg => rfl); (case hr => first | (go_simp; done) | (go_simp; rfl)); intro gb131 hg w4 hbox hb; have n0_ := Aside0.mk (below_step (by repeat (first | (with_reducible first | exact HB.out | apply below_alloc | apply pw_below_drewN | apply below_drew1) | exact HB.out)) hb); have n1_ := Aside0.mk (hbox); have n2_ := Aside0.mk ((by rw [hg]; exact (below_size (by repeat (first | (with_reducible first | exact HB.out | apply below_alloc | apply pw_below_drewN | apply below_drew1) | exact HB.out))) : w.heap.size ≤ gb131)); have n3_ := Aside0.mk ((by rw [hg]; exact (below_size (by repeat (first | (with_reducible first | exact HB.out | apply below_alloc | apply pw_below_drewN | apply below_drew1) | exact HB.out))) : w.heap.size ≤ gb131)); clear HB; have HB := n0_; have BK131 := n1_; have GW131 := n2_; have GE131 := n3_; clear n0_ n1_ n2_ n3_; clear hb hbox hg; have hcz5_0 : w4.cell? ⟨gb131, 0, none⟩ = some (.string (⟨#[]⟩ : ByteArray)) := (blk_cell BK131.out 0).trans rfl; have hcz5_1 : w4.cell? ⟨gb131, 1, none⟩ = some (.int .i64 0) := (blk_cell BK131.out 1).trans rfl; have hcz5_2 : w4.cell? ⟨gb131, 2, none⟩ = some (.bool false) := (blk_cell BK131.out 2).trans rfl; have hcz5_3 : w4.cell? ⟨gb131, 3, none⟩ = some (.int .i64 0) := (blk_cell BK131.out 3).trans rfl; have hcz5_4 : w4.cell? ⟨gb131, 4, none⟩ = some (.int .i64 0) := (blk_cell BK131.out 4).trans rfl; have hcz5_5 : w4.cell? ⟨gb131, 5, none⟩ = some (.slice none 0 0) := (blk_cell BK131.out 5).trans rfl; have hfz5_0 := blk_frozen BK131.out 0; have hfz5_1 := blk_frozen BK131.out 1; have hfz5_2 := blk_frozen BK131.out 2; have hfz5_3 := blk_frozen BK131.out 3; have hfz5_4 := blk_frozen BK131.out 4; have hfz5_5 := blk_frozen BK131.out 5)); try go_wp2_with (first | ((with_reducible refine gate_dst (N := 4) rfl ?_); (try (refine gate_guard (by rfl) ?_; dsimp only)); refine box_event ?hg (N := 4) ?hd (cs := #[.string (⟨#[]⟩ : ByteArray), .int .i64 0, .bool false, .int .i64 0, .int .i64 0, .slice none 0 0]) (t := 62) ?hr ?_; (case hd => rfl); (case hg => rfl); (case hr => first | (go_simp; done) | (go_simp; rfl)); intro gb131 hg w4 hbox hb; have n0_ := Aside0.mk (below_step (by repeat (first | (with_reducible first | exact HB.out | apply below_alloc | apply pw_below_drewN | apply below_drew1) | exact HB.out)) hb); have n1_ := Aside0.mk (hbox); have n2_ := Aside0.mk ((by rw [hg]; exact (below_size (by repeat (first | (with_reducible first | exact HB.out | apply below_alloc | apply pw_below_drewN | apply below_drew1) | exact HB.out))) : w.heap.size ≤ gb131)); have n3_ := Aside0.mk ((by rw [hg]; exact (below_size (by repeat (first | (with_reducible first | exact HB.out | apply below_alloc | apply pw_below_drewN | apply below_drew1) | exact HB.out))) : w.heap.size ≤ gb131)); clear HB; have HB := n0_; have BK131 := n1_; have GW131 := n2_; have GE131 := n3_; clear n0_ n1_ n2_ n3_; clear hb hbox hg; have hcz5_0 : w4.cell? ⟨gb131, 0, none⟩ = some (.string (⟨#[]⟩ : ByteArray)) := (blk_cell BK131.out 0).trans rfl; have hcz5_1 : w4.cell? ⟨gb131, 1, none⟩ = some (.int .i64 0) := (blk_cell BK131.out 1).trans rfl; have hcz5_2 : w4.cell? ⟨gb131, 2, none⟩ = some (.bool false) := (blk_cell BK131.out 2).trans rfl; have hcz5_3 : w4.cell? ⟨gb131, 3, none⟩ = some (.int .i64 0) := (blk_cell BK131.out 3).trans rfl; have hcz5_4 : w4.cell? ⟨gb131, 4, none⟩ = some (.int .i64 0) := (blk_cell BK131.out 4).trans rfl; have hcz5_5 : w4.cell? ⟨gb131, 5, none⟩ = some (.slice none 0 0) := (blk_cell BK131.out 5).trans rfl; have hfz5_0 := blk_frozen BK131.out 0; have hfz5_1 := blk_frozen BK131.out 1; have hfz5_2 := blk_frozen BK131.out 2; have hfz5_3 := blk_frozen BK131.out 3; have hfz5_4 := blk_frozen BK131.out 4; have hfz5_5 := blk_frozen BK131.out 5)))
          go_loopg [5] k1 (fun kq v5 w' => ∃ (x5_2 : Int), v5 = .int .i64 x5_2 ∧ Aside0 (marquetryref16_fine.l1 kq l0 x3_1 x5_2 ((rd_T62 l0 x3_1).f0) ((rd_T62 l0 x3_1).f1) ((rd_T62 l0 x3_1).f2) ((rd_T62 l0 x3_1).f3) ((rd_T62 l0 x3_1).f4) ((rd_T62 l0 x3_1).f5) = some r) ∧ Aside0 (kq ≤ k1) ∧ Aside0 (w'.heap[gb131]? = some (.cells #[.string ((rd_T62 l0 x3_1).f0), .int .i64 ((rd_T62 l0 x3_1).f1), .bool ((rd_T62 l0 x3_1).f2), .int .i64 ((rd_T62 l0 x3_1).f3), .int .i64 ((rd_T62 l0 x3_1).f4), (.slice A130_5 ((rd_T62 l0 x3_1).f5).length c130_5)] 62 (0, 0))) ∧ Aside0 (Below w.heap.size w w'))
          case atStart => exact ⟨(0), (by first | rfl | (simp; done) | (simp [*]; done)), H', ⟨Nat.le_refl _⟩, ⟨by (with_reducible repeat (first | refine blk_drewN ?_ _ | refine blk_drew ?_ | refine blk_alloc ?_ _)); refine blk_put (cs := #[.string ((rd_T62 l0 x3_1).f0), .int .i64 ((rd_T62 l0 x3_1).f1), .bool ((rd_T62 l0 x3_1).f2), .int .i64 ((rd_T62 l0 x3_1).f3), .int .i64 ((rd_T62 l0 x3_1).f4), .slice none 0 0]) ?_ 5 _ rfl; (with_reducible repeat (first | refine blk_drewN ?_ _ | refine blk_drew ?_ | refine blk_alloc ?_ _)); refine blk_put (cs := #[.string ((rd_T62 l0 x3_1).f0), .int .i64 ((rd_T62 l0 x3_1).f1), .bool ((rd_T62 l0 x3_1).f2), .int .i64 ((rd_T62 l0 x3_1).f3), .int .i64 0, .slice none 0 0]) ?_ 4 _ rfl; (with_reducible repeat (first | refine blk_drewN ?_ _ | refine blk_drew ?_ | refine blk_alloc ?_ _)); refine blk_put (cs := #[.string ((rd_T62 l0 x3_1).f0), .int .i64 ((rd_T62 l0 x3_1).f1), .bool ((rd_T62 l0 x3_1).f2), .int .i64 0, .int .i64 0, .slice none 0 0]) ?_ 3 _ rfl; (with_reducible repeat (first | refine blk_drewN ?_ _ | refine blk_drew ?_ | refine blk_alloc ?_ _)); refine blk_put (cs := #[.string ((rd_T62 l0 x3_1).f0), .int .i64 ((rd_T62 l0 x3_1).f1), .bool false, .int .i64 0, .int .i64 0, .slice none 0 0]) ?_ 2 _ rfl; (with_reducible repeat (first | refine blk_drewN ?_ _ | refine blk_drew ?_ | refine blk_alloc ?_ _)); refine blk_put (cs := #[.string ((rd_T62 l0 x3_1).f0), .int .i64 0, .bool false, .int .i64 0, .int .i64 0, .slice none 0 0]) ?_ 1 _ rfl; (with_reducible repeat (first | refine blk_drewN ?_ _ | refine blk_drew ?_ | refine blk_alloc ?_ _)); refine blk_put (cs := #[.string (⟨#[]⟩ : ByteArray), .int .i64 0, .bool false, .int .i64 0, .int .i64 0, .slice none 0 0]) ?_ 0 _ rfl; (with_reducible repeat (first | refine blk_drewN ?_ _ | refine blk_drew ?_ | refine blk_alloc ?_ _)); exact BK131.out⟩, ⟨by repeat (first | (with_reducible first | exact HB.out | apply below_alloc | apply pw_below_drewN | apply below_drew1 | refine below_set ?_ GE131.out) | exact HB.out)⟩⟩
          case round =>
            clear H'
            try clear c1
            try clear p1
            try clear q1
            try clear hx1
            try clear c2
            try clear c2b0
            try clear p2
            try clear c3
            try clear c3b0
            try clear hcz5_0
            try clear hcz5_1
            try clear hcz5_2
            try clear hcz5_3
            try clear hcz5_4
            try clear hcz5_5
            try clear hfz5_0
            try clear hfz5_1
            try clear hfz5_2
            try clear hfz5_3
            try clear hfz5_4
            try clear hfz5_5
            try clear hx130_0
            try clear hx130_1
            try clear hx130_2
            try clear hx130_3
            try clear hx130_4
            try clear hx130_5
            try clear p130
            try clear q130
            obtain ⟨x5_2, rfl, HA, HK2, BK131, HB⟩ := hrel
            cases gk with
            | zero => exact absurd HA.out (by simp [marquetryref16_fine.l1])
            | succ k2 =>
              have H := HA.out
              clear HA
              simp only [marquetryref16_fine.l1] at H
              by_cases c6 : x5_2 < x3_1
              · rw [if_pos c6] at H
                have c6b0 : decide (x5_2 < x3_1) = true := decide_eq_true c6
                clear c6
                by_cases c7 : 0 ≤ x5_2
                · rw [if_pos c7] at H
                  have c7b0 : decide (0 ≤ x5_2) = true := decide_eq_true c7
                  clear c7
                  by_cases c8 : x5_2 < (l0.length : Int)
                  · rw [if_pos c8] at H
                    have c8b0 : decide (x5_2 < (l0.length : Int)) = true := decide_eq_true c8
                    clear c8
                    by_cases c9 : ((rd_T62 l0 x5_2).f0).toList = ((rd_T62 l0 x3_1).f0).toList
                    · rw [if_pos c9] at H
                      have c9b0 : (((rd_T62 l0 x5_2).f0).toList == ((rd_T62 l0 x3_1).f0).toList) = true := beq_iff_eq.mpr c9
                      have c9b1 : (((rd_T62 l0 x5_2).f0).toList != ((rd_T62 l0 x3_1).f0).toList) = false := bne_eq_false_iff_eq.mpr c9
                      clear c9
                      obtain rfl := Option.some.inj H
                      have p132 : 0 ≤ (x5_2 : Int) := of_decide_eq_true (by first | (with_reducible assumption) | assumption)
                      have q132 : x5_2 < (l0.length : Int) := of_decide_eq_true (by first | (with_reducible assumption) | assumption)
                      obtain ⟨ad132, A132_5, c132_5, e132, hx132_0, hx132_1, hx132_2, hx132_3, hx132_4, hx132_5, hl132_5, hi132_5⟩ := at_T62 HR0.out x5_2 p132 q132
                      obtain rfl : ad130 = ad132 := (by injection e132)
                      replace hx132_0 := (HB.out.cell (World.block_lt_of_cell? w _ hx132_0)).trans hx132_0
                      replace hx132_1 := (HB.out.cell (World.block_lt_of_cell? w _ hx132_1)).trans hx132_1
                      replace hx132_2 := (HB.out.cell (World.block_lt_of_cell? w _ hx132_2)).trans hx132_2
                      replace hx132_3 := (HB.out.cell (World.block_lt_of_cell? w _ hx132_3)).trans hx132_3
                      replace hx132_4 := (HB.out.cell (World.block_lt_of_cell? w _ hx132_4)).trans hx132_4
                      replace hx132_5 := (HB.out.cell (World.block_lt_of_cell? w _ hx132_5)).trans hx132_5
                      have HR132_5 := Aside0.mk hi132_5
                      have HC132_5 := Aside0.mk hl132_5
                      clear hi132_5 hl132_5
                      replace p132 := eq_true p132
                      replace q132 := eq_true q132
                      have hcz10_0 : wr.cell? ⟨gb131, 0, none⟩ = some (.string ((rd_T62 l0 x3_1).f0)) := (blk_cell BK131.out 0).trans rfl
                      have hcz10_1 : wr.cell? ⟨gb131, 1, none⟩ = some (.int .i64 ((rd_T62 l0 x3_1).f1)) := (blk_cell BK131.out 1).trans rfl
                      have hcz10_2 : wr.cell? ⟨gb131, 2, none⟩ = some (.bool ((rd_T62 l0 x3_1).f2)) := (blk_cell BK131.out 2).trans rfl
                      have hcz10_3 : wr.cell? ⟨gb131, 3, none⟩ = some (.int .i64 ((rd_T62 l0 x3_1).f3)) := (blk_cell BK131.out 3).trans rfl
                      have hcz10_4 : wr.cell? ⟨gb131, 4, none⟩ = some (.int .i64 ((rd_T62 l0 x3_1).f4)) := (blk_cell BK131.out 4).trans rfl
                      have hcz10_5 : wr.cell? ⟨gb131, 5, none⟩ = some (.slice A130_5 ((rd_T62 l0 x3_1).f5).length c130_5) := (blk_cell BK131.out 5).trans rfl
                      have hfz10_0 := blk_frozen BK131.out 0
                      have hfz10_1 := blk_frozen BK131.out 1
                      have hfz10_2 := blk_frozen BK131.out 2
                      have hfz10_3 := blk_frozen BK131.out 3
                      have hfz10_4 := blk_frozen BK131.out 4
                      have hfz10_5 := blk_frozen BK131.out 5
                      go_wp2
                      repeat (go_quiet (fail); try go_wp2)
                      go_ret
                      exact ⟨by first | rfl | (simp [errW_none, errW_some] <;> rfl) | (simp [*, errW_none, errW_some] <;> rfl), by repeat (first | (with_reducible first | exact HB.out | apply below_alloc | apply pw_below_drewN | apply below_drew1 | refine below_set ?_ GE131.out) | exact HB.out)⟩
                    · rw [if_neg c9] at H
                      have c9b0 : (((rd_T62 l0 x5_2).f0).toList == ((rd_T62 l0 x3_1).f0).toList) = false := beq_eq_false_iff_ne.mpr c9
                      have c9b1 : (((rd_T62 l0 x5_2).f0).toList != ((rd_T62 l0 x3_1).f0).toList) = true := bne_iff_ne.mpr c9
                      have H' := Aside0.mk H
                      clear H
                      have p132 : 0 ≤ (x5_2 : Int) := of_decide_eq_true (by first | (with_reducible assumption) | assumption)
                      have q132 : x5_2 < (l0.length : Int) := of_decide_eq_true (by first | (with_reducible assumption) | assumption)
                      obtain ⟨ad132, A132_5, c132_5, e132, hx132_0, hx132_1, hx132_2, hx132_3, hx132_4, hx132_5, hl132_5, hi132_5⟩ := at_T62 HR0.out x5_2 p132 q132
                      obtain rfl : ad130 = ad132 := (by injection e132)
                      replace hx132_0 := (HB.out.cell (World.block_lt_of_cell? w _ hx132_0)).trans hx132_0
                      replace hx132_1 := (HB.out.cell (World.block_lt_of_cell? w _ hx132_1)).trans hx132_1
                      replace hx132_2 := (HB.out.cell (World.block_lt_of_cell? w _ hx132_2)).trans hx132_2
                      replace hx132_3 := (HB.out.cell (World.block_lt_of_cell? w _ hx132_3)).trans hx132_3
                      replace hx132_4 := (HB.out.cell (World.block_lt_of_cell? w _ hx132_4)).trans hx132_4
                      replace hx132_5 := (HB.out.cell (World.block_lt_of_cell? w _ hx132_5)).trans hx132_5
                      have HR132_5 := Aside0.mk hi132_5
                      have HC132_5 := Aside0.mk hl132_5
                      clear hi132_5 hl132_5
                      replace p132 := eq_true p132
                      replace q132 := eq_true q132
                      have hcz11_0 : wr.cell? ⟨gb131, 0, none⟩ = some (.string ((rd_T62 l0 x3_1).f0)) := (blk_cell BK131.out 0).trans rfl
                      have hcz11_1 : wr.cell? ⟨gb131, 1, none⟩ = some (.int .i64 ((rd_T62 l0 x3_1).f1)) := (blk_cell BK131.out 1).trans rfl
                      have hcz11_2 : wr.cell? ⟨gb131, 2, none⟩ = some (.bool ((rd_T62 l0 x3_1).f2)) := (blk_cell BK131.out 2).trans rfl
                      have hcz11_3 : wr.cell? ⟨gb131, 3, none⟩ = some (.int .i64 ((rd_T62 l0 x3_1).f3)) := (blk_cell BK131.out 3).trans rfl
                      have hcz11_4 : wr.cell? ⟨gb131, 4, none⟩ = some (.int .i64 ((rd_T62 l0 x3_1).f4)) := (blk_cell BK131.out 4).trans rfl
                      have hcz11_5 : wr.cell? ⟨gb131, 5, none⟩ = some (.slice A130_5 ((rd_T62 l0 x3_1).f5).length c130_5) := (blk_cell BK131.out 5).trans rfl
                      have hfz11_0 := blk_frozen BK131.out 0
                      have hfz11_1 := blk_frozen BK131.out 1
                      have hfz11_2 := blk_frozen BK131.out 2
                      have hfz11_3 := blk_frozen BK131.out 3
                      have hfz11_4 := blk_frozen BK131.out 4
                      have hfz11_5 := blk_frozen BK131.out 5
                      go_wp2
                      repeat (go_quiet (fail); try go_wp2)
                      go_roundg k2
                      case measure => have := HK1.out; have := HK2.out; omega
                      case rel => exact ⟨(wrap64 (x5_2 + 1)), (by first | rfl | (simp; done) | (simp [*]; done)), H', ⟨by have := HK1.out; have := HK2.out; omega⟩, ⟨by (with_reducible repeat (first | refine blk_drewN ?_ _ | refine blk_drew ?_ | refine blk_alloc ?_ _)); exact BK131.out⟩, ⟨by repeat (first | (with_reducible first | exact HB.out | apply below_alloc | apply pw_below_drewN | apply below_drew1 | refine below_set ?_ GE131.out) | exact HB.out)⟩⟩
                  · rw [if_neg c8] at H
                    exact absurd H (by simp)
                · rw [if_neg c7] at H
                  exact absurd H (by simp)
              · rw [if_neg c6] at H
                have c6b0 : decide (x5_2 < x3_1) = false := decide_eq_false c6
                clear c6
                have HC12 := Aside0.mk H
                clear H
                go_upto_region 10 with (fail)
                repeat (go_quiet (fail); go_upto_region 10 with (fail))
                go_cut [42] (fun v42 wc => ∃ (kq : Nat) (x42_11 : Bool), v42 = .bool x42_11 ∧ Aside0 (marquetryref16_fine.j2 kq l0 x3_1 x42_11 ((rd_T62 l0 x3_1).f0) ((rd_T62 l0 x3_1).f1) ((rd_T62 l0 x3_1).f2) ((rd_T62 l0 x3_1).f3) ((rd_T62 l0 x3_1).f4) ((rd_T62 l0 x3_1).f5) = some r) ∧ Aside0 (kq ≤ k2) ∧ Aside0 (wc.heap[gb131]? = some (.cells #[.string ((rd_T62 l0 x3_1).f0), .int .i64 ((rd_T62 l0 x3_1).f1), .bool ((rd_T62 l0 x3_1).f2), .int .i64 ((rd_T62 l0 x3_1).f3), .int .i64 ((rd_T62 l0 x3_1).f4), (.slice A130_5 ((rd_T62 l0 x3_1).f5).length c130_5)] 62 (0, 0))) ∧ Aside0 (Below w.heap.size w wc))
                case first =>
                  have H := HC12.out
                  clear HC12
                  replace H := Option.bind_eq_some_iff.mp H
                  obtain ⟨t133, A130, H⟩ := H
                  replace H : (if t133 = true then (if ((rd_T62 l0 x3_1).f1) < 0 then (marquetryref16_fine.j2 k2 l0 x3_1 true ((rd_T62 l0 x3_1).f0) ((rd_T62 l0 x3_1).f1) ((rd_T62 l0 x3_1).f2) ((rd_T62 l0 x3_1).f3) ((rd_T62 l0 x3_1).f4) ((rd_T62 l0 x3_1).f5)) else (marquetryref16_fine.j2 k2 l0 x3_1 (decide (((rd_T62 l0 x3_1).f1) > 2)) ((rd_T62 l0 x3_1).f0) ((rd_T62 l0 x3_1).f1) ((rd_T62 l0 x3_1).f2) ((rd_T62 l0 x3_1).f3) ((rd_T62 l0 x3_1).f4) ((rd_T62 l0 x3_1).f5))) else (marquetryref16_fine.j2 k2 l0 x3_1 true ((rd_T62 l0 x3_1).f0) ((rd_T62 l0 x3_1).f1) ((rd_T62 l0 x3_1).f2) ((rd_T62 l0 x3_1).f3) ((rd_T62 l0 x3_1).f4) ((rd_T62 l0 x3_1).f5))) = some r := H
                  have A13 := Aside0.mk A130
                  clear A130
                  by_cases c14 : t133 = true
                  · subst c14
                    have H1 : (if ((rd_T62 l0 x3_1).f1) < 0 then (marquetryref16_fine.j2 k2 l0 x3_1 true ((rd_T62 l0 x3_1).f0) ((rd_T62 l0 x3_1).f1) ((rd_T62 l0 x3_1).f2) ((rd_T62 l0 x3_1).f3) ((rd_T62 l0 x3_1).f4) ((rd_T62 l0 x3_1).f5)) else (marquetryref16_fine.j2 k2 l0 x3_1 (decide (((rd_T62 l0 x3_1).f1) > 2)) ((rd_T62 l0 x3_1).f0) ((rd_T62 l0 x3_1).f1) ((rd_T62 l0 x3_1).f2) ((rd_T62 l0 x3_1).f3) ((rd_T62 l0 x3_1).f4) ((rd_T62 l0 x3_1).f5))) = some r := by rw [if_pos rfl] at H; exact H
                    clear H
                    have H := H1
                    clear H1
                    by_cases c15 : ((rd_T62 l0 x3_1).f1) < 0
                    · rw [if_pos c15] at H
                      have c15b0 : decide (((rd_T62 l0 x3_1).f1) < 0) = true := decide_eq_true c15
                      clear c15
                      (first | rw [c15b0] | (simp only [i64_w, i32_w]; rw [c15b0]) | skip)
                      have H' := Aside0.mk H
                      clear H
                      have hcz16_0 : wr.cell? ⟨gb131, 0, none⟩ = some (.string ((rd_T62 l0 x3_1).f0)) := (blk_cell BK131.out 0).trans rfl
                      have hcz16_1 : wr.cell? ⟨gb131, 1, none⟩ = some (.int .i64 ((rd_T62 l0 x3_1).f1)) := (blk_cell BK131.out 1).trans rfl
                      have hcz16_2 : wr.cell? ⟨gb131, 2, none⟩ = some (.bool ((rd_T62 l0 x3_1).f2)) := (blk_cell BK131.out 2).trans rfl
                      have hcz16_3 : wr.cell? ⟨gb131, 3, none⟩ = some (.int .i64 ((rd_T62 l0 x3_1).f3)) := (blk_cell BK131.out 3).trans rfl
                      have hcz16_4 : wr.cell? ⟨gb131, 4, none⟩ = some (.int .i64 ((rd_T62 l0 x3_1).f4)) := (blk_cell BK131.out 4).trans rfl
                      have hcz16_5 : wr.cell? ⟨gb131, 5, none⟩ = some (.slice A130_5 ((rd_T62 l0 x3_1).f5).length c130_5) := (blk_cell BK131.out 5).trans rfl
                      have hfz16_0 := blk_frozen BK131.out 0
                      have hfz16_1 := blk_frozen BK131.out 1
                      have hfz16_2 := blk_frozen BK131.out 2
                      have hfz16_3 := blk_frozen BK131.out 3
                      have hfz16_4 := blk_frozen BK131.out 4
                      have hfz16_5 := blk_frozen BK131.out 5
                      go_wp2_with (first | (go_at_call 29; (with_reducible refine (marquetryref16_named.calls k2 ((rd_T62 l0 x3_1).f0) true _ A13.out).mono ?_); rintro e w' ⟨rfl, ⟨nd, rfl⟩⟩; (try first | exact ⟨rfl, _, World.drewN_drewN _ _ _⟩ | exact ⟨rfl, _, Eq.trans (World.drewN_drewN _ _ _) (congrArg (World.drewN _) (Nat.add_assoc _ _ _))⟩)))
                      repeat (go_quiet (first | (go_at_call 29; (with_reducible refine (marquetryref16_named.calls k2 ((rd_T62 l0 x3_1).f0) true _ A13.out).mono ?_); rintro e w' ⟨rfl, ⟨nd, rfl⟩⟩; (try first | exact ⟨rfl, _, World.drewN_drewN _ _ _⟩ | exact ⟨rfl, _, Eq.trans (World.drewN_drewN _ _ _) (congrArg (World.drewN _) (Nat.add_assoc _ _ _))⟩))); try go_wp2_with (first | (go_at_call 29; (with_reducible refine (marquetryref16_named.calls k2 ((rd_T62 l0 x3_1).f0) true _ A13.out).mono ?_); rintro e w' ⟨rfl, ⟨nd, rfl⟩⟩; (try first | exact ⟨rfl, _, World.drewN_drewN _ _ _⟩ | exact ⟨rfl, _, Eq.trans (World.drewN_drewN _ _ _) (congrArg (World.drewN _) (Nat.add_assoc _ _ _))⟩))))
                      go_meet
                      case rel => exact ⟨_, (true), (by first | rfl | (simp; done) | (simp [*]; done)), H', ⟨by have := HK1.out; have := HK2.out; first | omega | exact Nat.le_refl _⟩, ⟨by (with_reducible repeat (first | refine blk_drewN ?_ _ | refine blk_drew ?_ | refine blk_alloc ?_ _)); exact BK131.out⟩, ⟨by repeat (first | (with_reducible first | exact HB.out | apply below_alloc | apply pw_below_drewN | apply below_drew1 | refine below_set ?_ GE131.out) | exact HB.out)⟩⟩
                    · rw [if_neg c15] at H
                      have c15b0 : decide (((rd_T62 l0 x3_1).f1) < 0) = false := decide_eq_false c15
                      clear c15
                      (first | rw [c15b0] | (simp only [i64_w, i32_w]; rw [c15b0]) | skip)
                      have H' := Aside0.mk H
                      clear H
                      have hcz17_0 : wr.cell? ⟨gb131, 0, none⟩ = some (.string ((rd_T62 l0 x3_1).f0)) := (blk_cell BK131.out 0).trans rfl
                      have hcz17_1 : wr.cell? ⟨gb131, 1, none⟩ = some (.int .i64 ((rd_T62 l0 x3_1).f1)) := (blk_cell BK131.out 1).trans rfl
                      have hcz17_2 : wr.cell? ⟨gb131, 2, none⟩ = some (.bool ((rd_T62 l0 x3_1).f2)) := (blk_cell BK131.out 2).trans rfl
                      have hcz17_3 : wr.cell? ⟨gb131, 3, none⟩ = some (.int .i64 ((rd_T62 l0 x3_1).f3)) := (blk_cell BK131.out 3).trans rfl
                      have hcz17_4 : wr.cell? ⟨gb131, 4, none⟩ = some (.int .i64 ((rd_T62 l0 x3_1).f4)) := (blk_cell BK131.out 4).trans rfl
                      have hcz17_5 : wr.cell? ⟨gb131, 5, none⟩ = some (.slice A130_5 ((rd_T62 l0 x3_1).f5).length c130_5) := (blk_cell BK131.out 5).trans rfl
                      have hfz17_0 := blk_frozen BK131.out 0
                      have hfz17_1 := blk_frozen BK131.out 1
                      have hfz17_2 := blk_frozen BK131.out 2
                      have hfz17_3 := blk_frozen BK131.out 3
                      have hfz17_4 := blk_frozen BK131.out 4
                      have hfz17_5 := blk_frozen BK131.out 5
                      go_wp2_with (first | (go_at_call 29; (with_reducible refine (marquetryref16_named.calls k2 ((rd_T62 l0 x3_1).f0) true _ A13.out).mono ?_); rintro e w' ⟨rfl, ⟨nd, rfl⟩⟩; (try first | exact ⟨rfl, _, World.drewN_drewN _ _ _⟩ | exact ⟨rfl, _, Eq.trans (World.drewN_drewN _ _ _) (congrArg (World.drewN _) (Nat.add_assoc _ _ _))⟩)))
                      repeat (go_quiet (first | (go_at_call 29; (with_reducible refine (marquetryref16_named.calls k2 ((rd_T62 l0 x3_1).f0) true _ A13.out).mono ?_); rintro e w' ⟨rfl, ⟨nd, rfl⟩⟩; (try first | exact ⟨rfl, _, World.drewN_drewN _ _ _⟩ | exact ⟨rfl, _, Eq.trans (World.drewN_drewN _ _ _) (congrArg (World.drewN _) (Nat.add_assoc _ _ _))⟩))); try go_wp2_with (first | (go_at_call 29; (with_reducible refine (marquetryref16_named.calls k2 ((rd_T62 l0 x3_1).f0) true _ A13.out).mono ?_); rintro e w' ⟨rfl, ⟨nd, rfl⟩⟩; (try first | exact ⟨rfl, _, World.drewN_drewN _ _ _⟩ | exact ⟨rfl, _, Eq.trans (World.drewN_drewN _ _ _) (congrArg (World.drewN _) (Nat.add_assoc _ _ _))⟩))))
                      go_meet
                      case rel => exact ⟨_, (decide (((rd_T62 l0 x3_1).f1) > 2)), (by first | rfl | (simp; done) | (simp [*]; done)), H', ⟨by have := HK1.out; have := HK2.out; first | omega | exact Nat.le_refl _⟩, ⟨by (with_reducible repeat (first | refine blk_drewN ?_ _ | refine blk_drew ?_ | refine blk_alloc ?_ _)); exact BK131.out⟩, ⟨by repeat (first | (with_reducible first | exact HB.out | apply below_alloc | apply pw_below_drewN | apply below_drew1 | refine below_set ?_ GE131.out) | exact HB.out)⟩⟩
                  · replace c14 := Bool.eq_false_iff.mpr c14
                    subst c14
                    have H1 : (marquetryref16_fine.j2 k2 l0 x3_1 true ((rd_T62 l0 x3_1).f0) ((rd_T62 l0 x3_1).f1) ((rd_T62 l0 x3_1).f2) ((rd_T62 l0 x3_1).f3) ((rd_T62 l0 x3_1).f4) ((rd_T62 l0 x3_1).f5)) = some r := by rw [if_neg (show ¬ (false = true) by decide)] at H; exact H
                    clear H
                    have H := H1
                    clear H1
                    have H' := Aside0.mk H
                    clear H
                    have hcz18_0 : wr.cell? ⟨gb131, 0, none⟩ = some (.string ((rd_T62 l0 x3_1).f0)) := (blk_cell BK131.out 0).trans rfl
                    have hcz18_1 : wr.cell? ⟨gb131, 1, none⟩ = some (.int .i64 ((rd_T62 l0 x3_1).f1)) := (blk_cell BK131.out 1).trans rfl
                    have hcz18_2 : wr.cell? ⟨gb131, 2, none⟩ = some (.bool ((rd_T62 l0 x3_1).f2)) := (blk_cell BK131.out 2).trans rfl
                    have hcz18_3 : wr.cell? ⟨gb131, 3, none⟩ = some (.int .i64 ((rd_T62 l0 x3_1).f3)) := (blk_cell BK131.out 3).trans rfl
                    have hcz18_4 : wr.cell? ⟨gb131, 4, none⟩ = some (.int .i64 ((rd_T62 l0 x3_1).f4)) := (blk_cell BK131.out 4).trans rfl
                    have hcz18_5 : wr.cell? ⟨gb131, 5, none⟩ = some (.slice A130_5 ((rd_T62 l0 x3_1).f5).length c130_5) := (blk_cell BK131.out 5).trans rfl
                    have hfz18_0 := blk_frozen BK131.out 0
                    have hfz18_1 := blk_frozen BK131.out 1
                    have hfz18_2 := blk_frozen BK131.out 2
                    have hfz18_3 := blk_frozen BK131.out 3
                    have hfz18_4 := blk_frozen BK131.out 4
                    have hfz18_5 := blk_frozen BK131.out 5
                    go_wp2_with (first | (go_at_call 29; (with_reducible refine (marquetryref16_named.calls k2 ((rd_T62 l0 x3_1).f0) false _ A13.out).mono ?_); rintro e w' ⟨rfl, ⟨nd, rfl⟩⟩; (try first | exact ⟨rfl, _, World.drewN_drewN _ _ _⟩ | exact ⟨rfl, _, Eq.trans (World.drewN_drewN _ _ _) (congrArg (World.drewN _) (Nat.add_assoc _ _ _))⟩)))
                    repeat (go_quiet (first | (go_at_call 29; (with_reducible refine (marquetryref16_named.calls k2 ((rd_T62 l0 x3_1).f0) false _ A13.out).mono ?_); rintro e w' ⟨rfl, ⟨nd, rfl⟩⟩; (try first | exact ⟨rfl, _, World.drewN_drewN _ _ _⟩ | exact ⟨rfl, _, Eq.trans (World.drewN_drewN _ _ _) (congrArg (World.drewN _) (Nat.add_assoc _ _ _))⟩))); try go_wp2_with (first | (go_at_call 29; (with_reducible refine (marquetryref16_named.calls k2 ((rd_T62 l0 x3_1).f0) false _ A13.out).mono ?_); rintro e w' ⟨rfl, ⟨nd, rfl⟩⟩; (try first | exact ⟨rfl, _, World.drewN_drewN _ _ _⟩ | exact ⟨rfl, _, Eq.trans (World.drewN_drewN _ _ _) (congrArg (World.drewN _) (Nat.add_assoc _ _ _))⟩))))
                    go_meet
                    case rel => exact ⟨_, (true), (by first | rfl | (simp; done) | (simp [*]; done)), H', ⟨by have := HK1.out; have := HK2.out; first | omega | exact Nat.le_refl _⟩, ⟨by (with_reducible repeat (first | refine blk_drewN ?_ _ | refine blk_drew ?_ | refine blk_alloc ?_ _)); exact BK131.out⟩, ⟨by repeat (first | (with_reducible first | exact HB.out | apply below_alloc | apply pw_below_drewN | apply below_drew1 | refine below_set ?_ GE131.out) | exact HB.out)⟩⟩
                case rest =>
                  clear HC12
                  try clear c1
                  try clear p1
                  try clear q1
                  try clear hx1
                  try clear c2
                  try clear c2b0
                  try clear p2
                  try clear c3
                  try clear c3b0
                  try clear c6
                  try clear c6b0
                  try clear p6
                  try clear c7
                  try clear c7b0
                  try clear c8
                  try clear c8b0
                  try clear c9
                  try clear c9b0
                  try clear c9b1
                  try clear c13
                  try clear p13
                  try clear q13
                  try clear hx13
                  try clear c14
                  try clear c15
                  try clear c15b0
                  try clear hcz10_0
                  try clear hcz10_1
                  try clear hcz10_2
                  try clear hcz10_3
                  try clear hcz10_4
                  try clear hcz10_5
                  try clear hcz11_0
                  try clear hcz11_1
                  try clear hcz11_2
                  try clear hcz11_3
                  try clear hcz11_4
                  try clear hcz11_5
                  try clear hcz16_0
                  try clear hcz16_1
                  try clear hcz16_2
                  try clear hcz16_3
                  try clear hcz16_4
                  try clear hcz16_5
                  try clear hcz17_0
                  try clear hcz17_1
                  try clear hcz17_2
                  try clear hcz17_3
                  try clear hcz17_4
                  try clear hcz17_5
                  try clear hcz18_0
                  try clear hcz18_1
                  try clear hcz18_2
                  try clear hcz18_3
                  try clear hcz18_4
                  try clear hcz18_5
                  try clear hcz5_0
                  try clear hcz5_1
                  try clear hcz5_2
                  try clear hcz5_3
                  try clear hcz5_4
                  try clear hcz5_5
                  try clear hfz10_0
                  try clear hfz10_1
                  try clear hfz10_2
                  try clear hfz10_3
                  try clear hfz10_4
                  try clear hfz10_5
                  try clear hfz11_0
                  try clear hfz11_1
                  try clear hfz11_2
                  try clear hfz11_3
                  try clear hfz11_4
                  try clear hfz11_5
                  try clear hfz16_0
                  try clear hfz16_1
                  try clear hfz16_2
                  try clear hfz16_3
                  try clear hfz16_4
                  try clear hfz16_5
                  try clear hfz17_0
                  try clear hfz17_1
                  try clear hfz17_2
                  try clear hfz17_3
                  try clear hfz17_4
                  try clear hfz17_5
                  try clear hfz18_0
                  try clear hfz18_1
                  try clear hfz18_2
                  try clear hfz18_3
                  try clear hfz18_4
                  try clear hfz18_5
                  try clear hfz5_0
                  try clear hfz5_1
                  try clear hfz5_2
                  try clear hfz5_3
                  try clear hfz5_4
                  try clear hfz5_5
                  try clear hx130_0
                  try clear hx130_1
                  try clear hx130_2
                  try clear hx130_3
                  try clear hx130_4
                  try clear hx130_5
                  try clear hx132_0
                  try clear hx132_1
                  try clear hx132_2
                  try clear hx132_3
                  try clear hx132_4
                  try clear hx132_5
                  try clear p1
                  try clear p130
                  try clear p132
                  try clear p2
                  try clear q1
                  try clear q130
                  try clear q132
                  obtain ⟨kq, x42_11, rfl, HA, HJ11, BK131, HB⟩ := hcut
                  cases kq with
                  | zero => exact absurd HA.out (by simp [marquetryref16_fine.j2])
                  | succ kj11 =>
                    have H := HA.out
                    clear HA
                    simp only [marquetryref16_fine.j2] at H
                    by_cases c19 : x42_11 = true
                    · subst c19
                      have H1 : (some false) = some r := by rw [if_pos rfl] at H; exact H
                      clear H
                      have H := H1
                      clear H1
                      obtain rfl := Option.some.inj H
                      go_wp2
                      repeat (go_quiet (fail); try go_wp2)
                      go_ret
                      exact ⟨by first | rfl | (simp [errW_none, errW_some] <;> rfl) | (simp [*, errW_none, errW_some] <;> rfl), by repeat (first | (with_reducible first | exact HB.out | apply below_alloc | apply pw_below_drewN | apply below_drew1 | refine below_set ?_ GE131.out) | exact HB.out)⟩
                    · replace c19 := Bool.eq_false_iff.mpr c19
                      subst c19
                      have H1 : (if ((rd_T62 l0 x3_1).f2) = true then (if (((rd_T62 l0 x3_1).f5).length : Int) = 0 then (marquetryref16_fine.j3 kj11 l0 x3_1 true ((rd_T62 l0 x3_1).f0) ((rd_T62 l0 x3_1).f1) ((rd_T62 l0 x3_1).f2) ((rd_T62 l0 x3_1).f3) ((rd_T62 l0 x3_1).f4) ((rd_T62 l0 x3_1).f5)) else (if ((rd_T62 l0 x3_1).f3) = 0 then (if ((rd_T62 l0 x3_1).f4) = 0 then ((marquetryref16_fine.f kj11 ((rd_T62 l0 x3_1).f5)).bind fun t134 => (marquetryref16_fine.j3 kj11 l0 x3_1 (!t134) ((rd_T62 l0 x3_1).f0) ((rd_T62 l0 x3_1).f1) ((rd_T62 l0 x3_1).f2) ((rd_T62 l0 x3_1).f3) ((rd_T62 l0 x3_1).f4) ((rd_T62 l0 x3_1).f5))) else (marquetryref16_fine.j3 kj11 l0 x3_1 true ((rd_T62 l0 x3_1).f0) ((rd_T62 l0 x3_1).f1) ((rd_T62 l0 x3_1).f2) ((rd_T62 l0 x3_1).f3) ((rd_T62 l0 x3_1).f4) ((rd_T62 l0 x3_1).f5))) else (marquetryref16_fine.j3 kj11 l0 x3_1 true ((rd_T62 l0 x3_1).f0) ((rd_T62 l0 x3_1).f1) ((rd_T62 l0 x3_1).f2) ((rd_T62 l0 x3_1).f3) ((rd_T62 l0 x3_1).f4) ((rd_T62 l0 x3_1).f5)))) else (marquetryref16_fine.j3 kj11 l0 x3_1 false ((rd_T62 l0 x3_1).f0) ((rd_T62 l0 x3_1).f1) ((rd_T62 l0 x3_1).f2) ((rd_T62 l0 x3_1).f3) ((rd_T62 l0 x3_1).f4) ((rd_T62 l0 x3_1).f5))) = some r := by rw [if_neg (show ¬ (false = true) by decide)] at H; exact H
                      clear H
                      have H := H1
                      clear H1
                      have HC20 := Aside0.mk H
                      clear H
                      go_upto_region 12 with (fail)
                      repeat (go_quiet (fail); go_upto_region 12 with (fail))
                      go_cut [66] (fun v66 wc => ∃ (kq : Nat) (x66_19 : Bool), v66 = .bool x66_19 ∧ Aside0 (marquetryref16_fine.j3 kq l0 x3_1 x66_19 ((rd_T62 l0 x3_1).f0) ((rd_T62 l0 x3_1).f1) ((rd_T62 l0 x3_1).f2) ((rd_T62 l0 x3_1).f3) ((rd_T62 l0 x3_1).f4) ((rd_T62 l0 x3_1).f5) = some r) ∧ Aside0 (kq ≤ kj11) ∧ Aside0 (wc.heap[gb131]? = some (.cells #[.string ((rd_T62 l0 x3_1).f0), .int .i64 ((rd_T62 l0 x3_1).f1), .bool ((rd_T62 l0 x3_1).f2), .int .i64 ((rd_T62 l0 x3_1).f3), .int .i64 ((rd_T62 l0 x3_1).f4), (.slice A130_5 ((rd_T62 l0 x3_1).f5).length c130_5)] 62 (0, 0))) ∧ Aside0 (Below w.heap.size w wc))
                      case first =>
                        have H := HC20.out
                        clear HC20
                        by_cases c21 : ((rd_T62 l0 x3_1).f2) = true
                        · rw [if_pos c21] at H
                          have c21b0 : ((rd_T62 l0 x3_1).f2) = true := c21
                          clear c21
                          (first | rw [c21b0] | (simp only [i64_w, i32_w]; rw [c21b0]) | skip)
                          by_cases c22 : (((rd_T62 l0 x3_1).f5).length : Int) = 0
                          · rw [if_pos c22] at H
                            have c22b0 : ((((rd_T62 l0 x3_1).f5).length : Int) == 0) = true := beq_iff_eq.mpr c22
                            have c22b1 : ((((rd_T62 l0 x3_1).f5).length : Int) != 0) = false := bne_eq_false_iff_eq.mpr c22
                            clear c22
                            have H' := Aside0.mk H
                            clear H
                            have hcz23_0 : wc.cell? ⟨gb131, 0, none⟩ = some (.string ((rd_T62 l0 x3_1).f0)) := (blk_cell BK131.out 0).trans rfl
                            have hcz23_1 : wc.cell? ⟨gb131, 1, none⟩ = some (.int .i64 ((rd_T62 l0 x3_1).f1)) := (blk_cell BK131.out 1).trans rfl
                            have hcz23_2 : wc.cell? ⟨gb131, 2, none⟩ = some (.bool ((rd_T62 l0 x3_1).f2)) := (blk_cell BK131.out 2).trans rfl
                            have hcz23_3 : wc.cell? ⟨gb131, 3, none⟩ = some (.int .i64 ((rd_T62 l0 x3_1).f3)) := (blk_cell BK131.out 3).trans rfl
                            have hcz23_4 : wc.cell? ⟨gb131, 4, none⟩ = some (.int .i64 ((rd_T62 l0 x3_1).f4)) := (blk_cell BK131.out 4).trans rfl
                            have hcz23_5 : wc.cell? ⟨gb131, 5, none⟩ = some (.slice A130_5 ((rd_T62 l0 x3_1).f5).length c130_5) := (blk_cell BK131.out 5).trans rfl
                            have hfz23_0 := blk_frozen BK131.out 0
                            have hfz23_1 := blk_frozen BK131.out 1
                            have hfz23_2 := blk_frozen BK131.out 2
                            have hfz23_3 := blk_frozen BK131.out 3
                            have hfz23_4 := blk_frozen BK131.out 4
                            have hfz23_5 := blk_frozen BK131.out 5
                            go_wp2
                            repeat (go_quiet (fail); try go_wp2)
                            go_meet
                            case rel => exact ⟨_, (true), (by first | rfl | (simp; done) | (simp [*]; done)), H', ⟨by have := HK1.out; have := HK2.out; have := HJ11.out; first | omega | exact Nat.le_refl _⟩, ⟨by (with_reducible repeat (first | refine blk_drewN ?_ _ | refine blk_drew ?_ | refine blk_alloc ?_ _)); exact BK131.out⟩, ⟨by repeat (first | (with_reducible first | exact HB.out | apply below_alloc | apply pw_below_drewN | apply below_drew1 | refine below_set ?_ GE131.out) | exact HB.out)⟩⟩
                          · rw [if_neg c22] at H
                            have c22b0 : ((((rd_T62 l0 x3_1).f5).length : Int) == 0) = false := beq_eq_false_iff_ne.mpr c22
                            have c22b1 : ((((rd_T62 l0 x3_1).f5).length : Int) != 0) = true := bne_iff_ne.mpr c22
                            have c22b2 : ¬ (((rd_T62 l0 x3_1).f5) = []) := fun h_ => c22 (by rw [h_]; rfl)
                            by_cases c24 : ((rd_T62 l0 x3_1).f3) = 0
                            · rw [if_pos c24] at H
                              have c24b0 : (((rd_T62 l0 x3_1).f3) == 0) = true := beq_iff_eq.mpr c24
                              have c24b1 : (((rd_T62 l0 x3_1).f3) != 0) = false := bne_eq_false_iff_eq.mpr c24
                              clear c24
                              by_cases c25 : ((rd_T62 l0 x3_1).f4) = 0
                              · rw [if_pos c25] at H
                                have c25b0 : (((rd_T62 l0 x3_1).f4) == 0) = true := beq_iff_eq.mpr c25
                                have c25b1 : (((rd_T62 l0 x3_1).f4) != 0) = false := bne_eq_false_iff_eq.mpr c25
                                clear c25
                                replace H := Option.bind_eq_some_iff.mp H
                                obtain ⟨t134, A260, H⟩ := H
                                replace H : (marquetryref16_fine.j3 kj11 l0 x3_1 (!t134) ((rd_T62 l0 x3_1).f0) ((rd_T62 l0 x3_1).f1) ((rd_T62 l0 x3_1).f2) ((rd_T62 l0 x3_1).f3) ((rd_T62 l0 x3_1).f4) ((rd_T62 l0 x3_1).f5)) = some r := H
                                have A26 := Aside0.mk A260
                                clear A260
                                have H' := Aside0.mk H
                                clear H
                                have hcz27_0 : wc.cell? ⟨gb131, 0, none⟩ = some (.string ((rd_T62 l0 x3_1).f0)) := (blk_cell BK131.out 0).trans rfl
                                have hcz27_1 : wc.cell? ⟨gb131, 1, none⟩ = some (.int .i64 ((rd_T62 l0 x3_1).f1)) := (blk_cell BK131.out 1).trans rfl
                                have hcz27_2 : wc.cell? ⟨gb131, 2, none⟩ = some (.bool ((rd_T62 l0 x3_1).f2)) := (blk_cell BK131.out 2).trans rfl
                                have hcz27_3 : wc.cell? ⟨gb131, 3, none⟩ = some (.int .i64 ((rd_T62 l0 x3_1).f3)) := (blk_cell BK131.out 3).trans rfl
                                have hcz27_4 : wc.cell? ⟨gb131, 4, none⟩ = some (.int .i64 ((rd_T62 l0 x3_1).f4)) := (blk_cell BK131.out 4).trans rfl
                                have hcz27_5 : wc.cell? ⟨gb131, 5, none⟩ = some (.slice A130_5 ((rd_T62 l0 x3_1).f5).length c130_5) := (blk_cell BK131.out 5).trans rfl
                                have hfz27_0 := blk_frozen BK131.out 0
                                have hfz27_1 := blk_frozen BK131.out 1
                                have hfz27_2 := blk_frozen BK131.out 2
                                have hfz27_3 := blk_frozen BK131.out 3
                                have hfz27_4 := blk_frozen BK131.out 4
                                have hfz27_5 := blk_frozen BK131.out 5
                                go_wp2_with (first | (go_at_call 31; (with_reducible refine (ih kj11 (by have := HK1.out; have := HK2.out; have := HJ11.out; omega) _ _ ((rd_T62 l0 x3_1).f5) t134 _ ?side1 ?side2 A26.out).mono ?_); (case side1 => repeat (first | exact (Kd.C_below HR130_5.out HB.out) | (with_reducible refine Kd.C_alloc ?_ _) | (with_reducible refine Kd.C_drewN ?_ _) | (with_reducible refine Kd.C_drew ?_))); (case side2 => exact HC130_5.out); rintro e w28 ⟨rfl, hb⟩; have n0_ := Aside0.mk (blk_below (g := gb131) (o := .cells #[.string ((rd_T62 l0 x3_1).f0), .int .i64 ((rd_T62 l0 x3_1).f1), .bool ((rd_T62 l0 x3_1).f2), .int .i64 ((rd_T62 l0 x3_1).f3), .int .i64 ((rd_T62 l0 x3_1).f4), .slice A130_5 ((rd_T62 l0 x3_1).f5).length c130_5] 62 (0, 0)) (by (with_reducible repeat (first | refine blk_drewN ?_ _ | refine blk_drew ?_ | refine blk_alloc ?_ _)); exact BK131.out) hb); have n1_ := Aside0.mk (below_step (by repeat (first | (with_reducible first | exact HB.out | apply below_alloc | apply pw_below_drewN | apply below_drew1 | refine below_set ?_ GE131.out) | exact HB.out)) hb); clear BK131; clear HB; have BK131 := n0_; have HB := n1_; clear n0_ n1_; (try clear hb); (try clear hb2); (try clear hk); (try clear hi)))
                                repeat (go_quiet (first | (go_at_call 31; (with_reducible refine (ih kj11 (by have := HK1.out; have := HK2.out; have := HJ11.out; omega) _ _ ((rd_T62 l0 x3_1).f5) t134 _ ?side1 ?side2 A26.out).mono ?_); (case side1 => repeat (first | exact (Kd.C_below HR130_5.out HB.out) | (with_reducible refine Kd.C_alloc ?_ _) | (with_reducible refine Kd.C_drewN ?_ _) | (with_reducible refine Kd.C_drew ?_))); (case side2 => exact HC130_5.out); rintro e w28 ⟨rfl, hb⟩; have n0_ := Aside0.mk (blk_below (g := gb131) (o := .cells #[.string ((rd_T62 l0 x3_1).f0), .int .i64 ((rd_T62 l0 x3_1).f1), .bool ((rd_T62 l0 x3_1).f2), .int .i64 ((rd_T62 l0 x3_1).f3), .int .i64 ((rd_T62 l0 x3_1).f4), .slice A130_5 ((rd_T62 l0 x3_1).f5).length c130_5] 62 (0, 0)) (by (with_reducible repeat (first | refine blk_drewN ?_ _ | refine blk_drew ?_ | refine blk_alloc ?_ _)); exact BK131.out) hb); have n1_ := Aside0.mk (below_step (by repeat (first | (with_reducible first | exact HB.out | apply below_alloc | apply pw_below_drewN | apply below_drew1 | refine below_set ?_ GE131.out) | exact HB.out)) hb); clear BK131; clear HB; have BK131 := n0_; have HB := n1_; clear n0_ n1_; (try clear hb); (try clear hb2); (try clear hk); (try clear hi))); try go_wp2_with (first | (go_at_call 31; (with_reducible refine (ih kj11 (by have := HK1.out; have := HK2.out; have := HJ11.out; omega) _ _ ((rd_T62 l0 x3_1).f5) t134 _ ?side1 ?side2 A26.out).mono ?_); (case side1 => repeat (first | exact (Kd.C_below HR130_5.out HB.out) | (with_reducible refine Kd.C_alloc ?_ _) | (with_reducible refine Kd.C_drewN ?_ _) | (with_reducible refine Kd.C_drew ?_))); (case side2 => exact HC130_5.out); rintro e w28 ⟨rfl, hb⟩; have n0_ := Aside0.mk (blk_below (g := gb131) (o := .cells #[.string ((rd_T62 l0 x3_1).f0), .int .i64 ((rd_T62 l0 x3_1).f1), .bool ((rd_T62 l0 x3_1).f2), .int .i64 ((rd_T62 l0 x3_1).f3), .int .i64 ((rd_T62 l0 x3_1).f4), .slice A130_5 ((rd_T62 l0 x3_1).f5).length c130_5] 62 (0, 0)) (by (with_reducible repeat (first | refine blk_drewN ?_ _ | refine blk_drew ?_ | refine blk_alloc ?_ _)); exact BK131.out) hb); have n1_ := Aside0.mk (below_step (by repeat (first | (with_reducible first | exact HB.out | apply below_alloc | apply pw_below_drewN | apply below_drew1 | refine below_set ?_ GE131.out) | exact HB.out)) hb); clear BK131; clear HB; have BK131 := n0_; have HB := n1_; clear n0_ n1_; (try clear hb); (try clear hb2); (try clear hk); (try clear hi))))
                                go_meet
                                case rel => exact ⟨_, (!t134), (by first | rfl | (simp; done) | (simp [*]; done)), H', ⟨by have := HK1.out; have := HK2.out; have := HJ11.out; first | omega | exact Nat.le_refl _⟩, ⟨by (with_reducible repeat (first | refine blk_drewN ?_ _ | refine blk_drew ?_ | refine blk_alloc ?_ _)); exact BK131.out⟩, ⟨by repeat (first | (with_reducible first | exact HB.out | apply below_alloc | apply pw_below_drewN | apply below_drew1 | refine below_set ?_ GE131.out) | exact HB.out)⟩⟩
                              · rw [if_neg c25] at H
                                have c25b0 : (((rd_T62 l0 x3_1).f4) == 0) = false := beq_eq_false_iff_ne.mpr c25
                                have c25b1 : (((rd_T62 l0 x3_1).f4) != 0) = true := bne_iff_ne.mpr c25
                                have H' := Aside0.mk H
                                clear H
                                have hcz29_0 : wc.cell? ⟨gb131, 0, none⟩ = some (.string ((rd_T62 l0 x3_1).f0)) := (blk_cell BK131.out 0).trans rfl
                                have hcz29_1 : wc.cell? ⟨gb131, 1, none⟩ = some (.int .i64 ((rd_T62 l0 x3_1).f1)) := (blk_cell BK131.out 1).trans rfl
                                have hcz29_2 : wc.cell? ⟨gb131, 2, none⟩ = some (.bool ((rd_T62 l0 x3_1).f2)) := (blk_cell BK131.out 2).trans rfl
                                have hcz29_3 : wc.cell? ⟨gb131, 3, none⟩ = some (.int .i64 ((rd_T62 l0 x3_1).f3)) := (blk_cell BK131.out 3).trans rfl
                                have hcz29_4 : wc.cell? ⟨gb131, 4, none⟩ = some (.int .i64 ((rd_T62 l0 x3_1).f4)) := (blk_cell BK131.out 4).trans rfl
                                have hcz29_5 : wc.cell? ⟨gb131, 5, none⟩ = some (.slice A130_5 ((rd_T62 l0 x3_1).f5).length c130_5) := (blk_cell BK131.out 5).trans rfl
                                have hfz29_0 := blk_frozen BK131.out 0
                                have hfz29_1 := blk_frozen BK131.out 1
                                have hfz29_2 := blk_frozen BK131.out 2
                                have hfz29_3 := blk_frozen BK131.out 3
                                have hfz29_4 := blk_frozen BK131.out 4
                                have hfz29_5 := blk_frozen BK131.out 5
                                go_wp2
                                repeat (go_quiet (fail); try go_wp2)
                                go_meet
                                case rel => exact ⟨_, (true), (by first | rfl | (simp; done) | (simp [*]; done)), H', ⟨by have := HK1.out; have := HK2.out; have := HJ11.out; first | omega | exact Nat.le_refl _⟩, ⟨by (with_reducible repeat (first | refine blk_drewN ?_ _ | refine blk_drew ?_ | refine blk_alloc ?_ _)); exact BK131.out⟩, ⟨by repeat (first | (with_reducible first | exact HB.out | apply below_alloc | apply pw_below_drewN | apply below_drew1 | refine below_set ?_ GE131.out) | exact HB.out)⟩⟩
                            · rw [if_neg c24] at H
                              have c24b0 : (((rd_T62 l0 x3_1).f3) == 0) = false := beq_eq_false_iff_ne.mpr c24
                              have c24b1 : (((rd_T62 l0 x3_1).f3) != 0) = true := bne_iff_ne.mpr c24
                              have H' := Aside0.mk H
                              clear H
                              have hcz30_0 : wc.cell? ⟨gb131, 0, none⟩ = some (.string ((rd_T62 l0 x3_1).f0)) := (blk_cell BK131.out 0).trans rfl
                              have hcz30_1 : wc.cell? ⟨gb131, 1, none⟩ = some (.int .i64 ((rd_T62 l0 x3_1).f1)) := (blk_cell BK131.out 1).trans rfl
                              have hcz30_2 : wc.cell? ⟨gb131, 2, none⟩ = some (.bool ((rd_T62 l0 x3_1).f2)) := (blk_cell BK131.out 2).trans rfl
                              have hcz30_3 : wc.cell? ⟨gb131, 3, none⟩ = some (.int .i64 ((rd_T62 l0 x3_1).f3)) := (blk_cell BK131.out 3).trans rfl
                              have hcz30_4 : wc.cell? ⟨gb131, 4, none⟩ = some (.int .i64 ((rd_T62 l0 x3_1).f4)) := (blk_cell BK131.out 4).trans rfl
                              have hcz30_5 : wc.cell? ⟨gb131, 5, none⟩ = some (.slice A130_5 ((rd_T62 l0 x3_1).f5).length c130_5) := (blk_cell BK131.out 5).trans rfl
                              have hfz30_0 := blk_frozen BK131.out 0
                              have hfz30_1 := blk_frozen BK131.out 1
                              have hfz30_2 := blk_frozen BK131.out 2
                              have hfz30_3 := blk_frozen BK131.out 3
                              have hfz30_4 := blk_frozen BK131.out 4
                              have hfz30_5 := blk_frozen BK131.out 5
                              go_wp2
                              repeat (go_quiet (fail); try go_wp2)
                              go_meet
                              case rel => exact ⟨_, (true), (by first | rfl | (simp; done) | (simp [*]; done)), H', ⟨by have := HK1.out; have := HK2.out; have := HJ11.out; first | omega | exact Nat.le_refl _⟩, ⟨by (with_reducible repeat (first | refine blk_drewN ?_ _ | refine blk_drew ?_ | refine blk_alloc ?_ _)); exact BK131.out⟩, ⟨by repeat (first | (with_reducible first | exact HB.out | apply below_alloc | apply pw_below_drewN | apply below_drew1 | refine below_set ?_ GE131.out) | exact HB.out)⟩⟩
                        · rw [if_neg c21] at H
                          have c21b0 : ((rd_T62 l0 x3_1).f2) = false := by simpa using c21
                          clear c21
                          (first | rw [c21b0] | (simp only [i64_w, i32_w]; rw [c21b0]) | skip)
                          have H' := Aside0.mk H
                          clear H
                          have hcz31_0 : wc.cell? ⟨gb131, 0, none⟩ = some (.string ((rd_T62 l0 x3_1).f0)) := (blk_cell BK131.out 0).trans rfl
                          have hcz31_1 : wc.cell? ⟨gb131, 1, none⟩ = some (.int .i64 ((rd_T62 l0 x3_1).f1)) := (blk_cell BK131.out 1).trans rfl
                          have hcz31_2 : wc.cell? ⟨gb131, 2, none⟩ = some (.bool ((rd_T62 l0 x3_1).f2)) := (blk_cell BK131.out 2).trans rfl
                          have hcz31_3 : wc.cell? ⟨gb131, 3, none⟩ = some (.int .i64 ((rd_T62 l0 x3_1).f3)) := (blk_cell BK131.out 3).trans rfl
                          have hcz31_4 : wc.cell? ⟨gb131, 4, none⟩ = some (.int .i64 ((rd_T62 l0 x3_1).f4)) := (blk_cell BK131.out 4).trans rfl
                          have hcz31_5 : wc.cell? ⟨gb131, 5, none⟩ = some (.slice A130_5 ((rd_T62 l0 x3_1).f5).length c130_5) := (blk_cell BK131.out 5).trans rfl
                          have hfz31_0 := blk_frozen BK131.out 0
                          have hfz31_1 := blk_frozen BK131.out 1
                          have hfz31_2 := blk_frozen BK131.out 2
                          have hfz31_3 := blk_frozen BK131.out 3
                          have hfz31_4 := blk_frozen BK131.out 4
                          have hfz31_5 := blk_frozen BK131.out 5
                          go_wp2
                          repeat (go_quiet (fail); try go_wp2)
                          go_meet
                          case rel => exact ⟨_, (false), (by first | rfl | (simp; done) | (simp [*]; done)), H', ⟨by have := HK1.out; have := HK2.out; have := HJ11.out; first | omega | exact Nat.le_refl _⟩, ⟨by (with_reducible repeat (first | refine blk_drewN ?_ _ | refine blk_drew ?_ | refine blk_alloc ?_ _)); exact BK131.out⟩, ⟨by repeat (first | (with_reducible first | exact HB.out | apply below_alloc | apply pw_below_drewN | apply below_drew1 | refine below_set ?_ GE131.out) | exact HB.out)⟩⟩
                      case rest =>
                        clear HC20
                        try clear c1
                        try clear p1
                        try clear q1
                        try clear hx1
                        try clear c2
                        try clear c2b0
                        try clear p2
                        try clear c3
                        try clear c3b0
                        try clear c6
                        try clear c6b0
                        try clear p6
                        try clear c7
                        try clear c7b0
                        try clear c8
                        try clear c8b0
                        try clear c9
                        try clear c9b0
                        try clear c9b1
                        try clear c13
                        try clear p13
                        try clear q13
                        try clear hx13
                        try clear c14
                        try clear c15
                        try clear c15b0
                        try clear c19
                        try clear c21
                        try clear c21b0
                        try clear c22
                        try clear c22b0
                        try clear c22b1
                        try clear c22b2
                        try clear c24
                        try clear c24b0
                        try clear c24b1
                        try clear c25
                        try clear c25b0
                        try clear c25b1
                        try clear c31
                        try clear hcz10_0
                        try clear hcz10_1
                        try clear hcz10_2
                        try clear hcz10_3
                        try clear hcz10_4
                        try clear hcz10_5
                        try clear hcz11_0
                        try clear hcz11_1
                        try clear hcz11_2
                        try clear hcz11_3
                        try clear hcz11_4
                        try clear hcz11_5
                        try clear hcz16_0
                        try clear hcz16_1
                        try clear hcz16_2
                        try clear hcz16_3
                        try clear hcz16_4
                        try clear hcz16_5
                        try clear hcz17_0
                        try clear hcz17_1
                        try clear hcz17_2
                        try clear hcz17_3
                        try clear hcz17_4
                        try clear hcz17_5
                        try clear hcz18_0
                        try clear hcz18_1
                        try clear hcz18_2
                        try clear hcz18_3
                        try clear hcz18_4
                        try clear hcz18_5
                        try clear hcz23_0
                        try clear hcz23_1
                        try clear hcz23_2
                        try clear hcz23_3
                        try clear hcz23_4
                        try clear hcz23_5
                        try clear hcz27_0
                        try clear hcz27_1
                        try clear hcz27_2
                        try clear hcz27_3
                        try clear hcz27_4
                        try clear hcz27_5
                        try clear hcz29_0
                        try clear hcz29_1
                        try clear hcz29_2
                        try clear hcz29_3
                        try clear hcz29_4
                        try clear hcz29_5
                        try clear hcz30_0
                        try clear hcz30_1
                        try clear hcz30_2
                        try clear hcz30_3
                        try clear hcz30_4
                        try clear hcz30_5
                        try clear hcz31_0
                        try clear hcz31_1
                        try clear hcz31_2
                        try clear hcz31_3
                        try clear hcz31_4
                        try clear hcz31_5
                        try clear hcz5_0
                        try clear hcz5_1
                        try clear hcz5_2
                        try clear hcz5_3
                        try clear hcz5_4
                        try clear hcz5_5
                        try clear hfz10_0
                        try clear hfz10_1
                        try clear hfz10_2
                        try clear hfz10_3
                        try clear hfz10_4
                        try clear hfz10_5
                        try clear hfz11_0
                        try clear hfz11_1
                        try clear hfz11_2
                        try clear hfz11_3
                        try clear hfz11_4
                        try clear hfz11_5
                        try clear hfz16_0
                        try clear hfz16_1
                        try clear hfz16_2
                        try clear hfz16_3
                        try clear hfz16_4
                        try clear hfz16_5
                        try clear hfz17_0
                        try clear hfz17_1
                        try clear hfz17_2
                        try clear hfz17_3
                        try clear hfz17_4
                        try clear hfz17_5
                        try clear hfz18_0
                        try clear hfz18_1
                        try clear hfz18_2
                        try clear hfz18_3
                        try clear hfz18_4
                        try clear hfz18_5
                        try clear hfz23_0
                        try clear hfz23_1
                        try clear hfz23_2
                        try clear hfz23_3
                        try clear hfz23_4
                        try clear hfz23_5
                        try clear hfz27_0
                        try clear hfz27_1
                        try clear hfz27_2
                        try clear hfz27_3
                        try clear hfz27_4
                        try clear hfz27_5
                        try clear hfz29_0
                        try clear hfz29_1
                        try clear hfz29_2
                        try clear hfz29_3
                        try clear hfz29_4
                        try clear hfz29_5
                        try clear hfz30_0
                        try clear hfz30_1
                        try clear hfz30_2
                        try clear hfz30_3
                        try clear hfz30_4
                        try clear hfz30_5
                        try clear hfz31_0
                        try clear hfz31_1
                        try clear hfz31_2
                        try clear hfz31_3
                        try clear hfz31_4
                        try clear hfz31_5
                        try clear hfz5_0
                        try clear hfz5_1
                        try clear hfz5_2
                        try clear hfz5_3
                        try clear hfz5_4
                        try clear hfz5_5
                        try clear hx130_0
                        try clear hx130_1
                        try clear hx130_2
                        try clear hx130_3
                        try clear hx130_4
                        try clear hx130_5
                        try clear hx132_0
                        try clear hx132_1
                        try clear hx132_2
                        try clear hx132_3
                        try clear hx132_4
                        try clear hx132_5
                        try clear p1
                        try clear p13
                        try clear p130
                        try clear p132
                        try clear p2
                        try clear p6
                        try clear q1
                        try clear q13
                        try clear q130
                        try clear q132
                        obtain ⟨kq, x66_19, rfl, HA, HJ19, BK131, HB⟩ := hcut
                        cases kq with
                        | zero => exact absurd HA.out (by simp [marquetryref16_fine.j3])
                        | succ kj19 =>
                          have H := HA.out
                          clear HA
                          simp only [marquetryref16_fine.j3] at H
                          by_cases c32 : x66_19 = true
                          · subst c32
                            have H1 : (some false) = some r := by rw [if_pos rfl] at H; exact H
                            clear H
                            have H := H1
                            clear H1
                            obtain rfl := Option.some.inj H
                            go_wp2
                            repeat (go_quiet (fail); try go_wp2)
                            go_ret
                            exact ⟨by first | rfl | (simp [errW_none, errW_some] <;> rfl) | (simp [*, errW_none, errW_some] <;> rfl), by repeat (first | (with_reducible first | exact HB.out | apply below_alloc | apply pw_below_drewN | apply below_drew1 | refine below_set ?_ GE131.out) | exact HB.out)⟩
                          · replace c32 := Bool.eq_false_iff.mpr c32
                            subst c32
                            have H1 : (if ((rd_T62 l0 x3_1).f2) = true then (marquetryref16_fine.l0 kj19 l0 (wrap64 (x3_1 + 1))) else (if (((rd_T62 l0 x3_1).f5).length : Int) > 0 then (some false) else ((marquetryref09_Check.f kj19 ((rd_T62 l0 x3_1).f3) ((rd_T62 l0 x3_1).f4)).bind fun t135 => (if t135 = true then (marquetryref16_fine.l0 kj19 l0 (wrap64 (x3_1 + 1))) else (some false))))) = some r := by rw [if_neg (show ¬ (false = true) by decide)] at H; exact H
                            clear H
                            have H := H1
                            clear H1
                            by_cases c33 : ((rd_T62 l0 x3_1).f2) = true
                            · rw [if_pos c33] at H
                              have c33b0 : ((rd_T62 l0 x3_1).f2) = true := c33
                              clear c33
                              have H' := Aside0.mk H
                              clear H
                              have hcz34_0 : wc.cell? ⟨gb131, 0, none⟩ = some (.string ((rd_T62 l0 x3_1).f0)) := (blk_cell BK131.out 0).trans rfl
                              have hcz34_1 : wc.cell? ⟨gb131, 1, none⟩ = some (.int .i64 ((rd_T62 l0 x3_1).f1)) := (blk_cell BK131.out 1).trans rfl
                              have hcz34_2 : wc.cell? ⟨gb131, 2, none⟩ = some (.bool ((rd_T62 l0 x3_1).f2)) := (blk_cell BK131.out 2).trans rfl
                              have hcz34_3 : wc.cell? ⟨gb131, 3, none⟩ = some (.int .i64 ((rd_T62 l0 x3_1).f3)) := (blk_cell BK131.out 3).trans rfl
                              have hcz34_4 : wc.cell? ⟨gb131, 4, none⟩ = some (.int .i64 ((rd_T62 l0 x3_1).f4)) := (blk_cell BK131.out 4).trans rfl
                              have hcz34_5 : wc.cell? ⟨gb131, 5, none⟩ = some (.slice A130_5 ((rd_T62 l0 x3_1).f5).length c130_5) := (blk_cell BK131.out 5).trans rfl
                              have hfz34_0 := blk_frozen BK131.out 0
                              have hfz34_1 := blk_frozen BK131.out 1
                              have hfz34_2 := blk_frozen BK131.out 2
                              have hfz34_3 := blk_frozen BK131.out 3
                              have hfz34_4 := blk_frozen BK131.out 4
                              have hfz34_5 := blk_frozen BK131.out 5
                              go_wp2
                              repeat (go_quiet (fail); try go_wp2)
                              go_roundg kj19
                              case measure => have := HK1.out; have := HK2.out; have := HJ11.out; have := HJ19.out; omega
                              case rel => exact ⟨(wrap64 (x3_1 + 1)), (by first | rfl | (simp; done) | (simp [*]; done)), H', ⟨by have := HK1.out; have := HK2.out; have := HJ11.out; have := HJ19.out; omega⟩, ⟨by repeat (first | (with_reducible first | exact HB.out | apply below_alloc | apply pw_below_drewN | apply below_drew1 | refine below_set ?_ GE131.out) | exact HB.out)⟩⟩
                            · rw [if_neg c33] at H
                              have c33b0 : ((rd_T62 l0 x3_1).f2) = false := by simpa using c33
                              clear c33
                              by_cases c35 : (((rd_T62 l0 x3_1).f5).length : Int) > 0
                              · rw [if_pos c35] at H
                                have c35b0 : decide (0 < (((rd_T62 l0 x3_1).f5).length : Int)) = true := decide_eq_true c35
                                have c35b1 : decide (0 < ((rd_T62 l0 x3_1).f5).length) = true := decide_eq_true (by omega)
                                clear c35
                                obtain rfl := Option.some.inj H
                                have hcz36_0 : wc.cell? ⟨gb131, 0, none⟩ = some (.string ((rd_T62 l0 x3_1).f0)) := (blk_cell BK131.out 0).trans rfl
                                have hcz36_1 : wc.cell? ⟨gb131, 1, none⟩ = some (.int .i64 ((rd_T62 l0 x3_1).f1)) := (blk_cell BK131.out 1).trans rfl
                                have hcz36_2 : wc.cell? ⟨gb131, 2, none⟩ = some (.bool ((rd_T62 l0 x3_1).f2)) := (blk_cell BK131.out 2).trans rfl
                                have hcz36_3 : wc.cell? ⟨gb131, 3, none⟩ = some (.int .i64 ((rd_T62 l0 x3_1).f3)) := (blk_cell BK131.out 3).trans rfl
                                have hcz36_4 : wc.cell? ⟨gb131, 4, none⟩ = some (.int .i64 ((rd_T62 l0 x3_1).f4)) := (blk_cell BK131.out 4).trans rfl
                                have hcz36_5 : wc.cell? ⟨gb131, 5, none⟩ = some (.slice A130_5 ((rd_T62 l0 x3_1).f5).length c130_5) := (blk_cell BK131.out 5).trans rfl
                                have hfz36_0 := blk_frozen BK131.out 0
                                have hfz36_1 := blk_frozen BK131.out 1
                                have hfz36_2 := blk_frozen BK131.out 2
                                have hfz36_3 := blk_frozen BK131.out 3
                                have hfz36_4 := blk_frozen BK131.out 4
                                have hfz36_5 := blk_frozen BK131.out 5
                                go_wp2
                                repeat (go_quiet (fail); try go_wp2)
                                go_ret
                                exact ⟨by first | rfl | (simp [errW_none, errW_some] <;> rfl) | (simp [*, errW_none, errW_some] <;> rfl), by repeat (first | (with_reducible first | exact HB.out | apply below_alloc | apply pw_below_drewN | apply below_drew1 | refine below_set ?_ GE131.out) | exact HB.out)⟩
                              · rw [if_neg c35] at H
                                have c35b0 : decide (0 < (((rd_T62 l0 x3_1).f5).length : Int)) = false := decide_eq_false c35
                                have c35b1 : decide (0 < ((rd_T62 l0 x3_1).f5).length) = false := decide_eq_false (by omega)
                                clear c35
                                replace H := Option.bind_eq_some_iff.mp H
                                obtain ⟨t135, A370, H⟩ := H
                                replace H : (if t135 = true then (marquetryref16_fine.l0 kj19 l0 (wrap64 (x3_1 + 1))) else (some false)) = some r := H
                                have A37 := Aside0.mk A370
                                clear A370
                                by_cases c38 : t135 = true
                                · subst c38
                                  have H1 : (marquetryref16_fine.l0 kj19 l0 (wrap64 (x3_1 + 1))) = some r := by rw [if_pos rfl] at H; exact H
                                  clear H
                                  have H := H1
                                  clear H1
                                  have H' := Aside0.mk H
                                  clear H
                                  have hcz39_0 : wc.cell? ⟨gb131, 0, none⟩ = some (.string ((rd_T62 l0 x3_1).f0)) := (blk_cell BK131.out 0).trans rfl
                                  have hcz39_1 : wc.cell? ⟨gb131, 1, none⟩ = some (.int .i64 ((rd_T62 l0 x3_1).f1)) := (blk_cell BK131.out 1).trans rfl
                                  have hcz39_2 : wc.cell? ⟨gb131, 2, none⟩ = some (.bool ((rd_T62 l0 x3_1).f2)) := (blk_cell BK131.out 2).trans rfl
                                  have hcz39_3 : wc.cell? ⟨gb131, 3, none⟩ = some (.int .i64 ((rd_T62 l0 x3_1).f3)) := (blk_cell BK131.out 3).trans rfl
                                  have hcz39_4 : wc.cell? ⟨gb131, 4, none⟩ = some (.int .i64 ((rd_T62 l0 x3_1).f4)) := (blk_cell BK131.out 4).trans rfl
                                  have hcz39_5 : wc.cell? ⟨gb131, 5, none⟩ = some (.slice A130_5 ((rd_T62 l0 x3_1).f5).length c130_5) := (blk_cell BK131.out 5).trans rfl
                                  have hfz39_0 := blk_frozen BK131.out 0
                                  have hfz39_1 := blk_frozen BK131.out 1
                                  have hfz39_2 := blk_frozen BK131.out 2
                                  have hfz39_3 := blk_frozen BK131.out 3
                                  have hfz39_4 := blk_frozen BK131.out 4
                                  have hfz39_5 := blk_frozen BK131.out 5
                                  go_wp2_with (first | (go_at_call 55; (with_reducible refine (marquetryref09_Check.calls kj19 ((rd_T62 l0 x3_1).f3) ((rd_T62 l0 x3_1).f4) true _ A37.out).mono ?_); rintro e w40 ⟨rfl, hb⟩; have n0_ := Aside0.mk (blk_below (g := gb131) (o := .cells #[.string ((rd_T62 l0 x3_1).f0), .int .i64 ((rd_T62 l0 x3_1).f1), .bool ((rd_T62 l0 x3_1).f2), .int .i64 ((rd_T62 l0 x3_1).f3), .int .i64 ((rd_T62 l0 x3_1).f4), .slice A130_5 ((rd_T62 l0 x3_1).f5).length c130_5] 62 (0, 0)) (by (with_reducible repeat (first | refine blk_drewN ?_ _ | refine blk_drew ?_ | refine blk_alloc ?_ _)); exact BK131.out) hb); have n1_ := Aside0.mk (below_step (by repeat (first | (with_reducible first | exact HB.out | apply below_alloc | apply pw_below_drewN | apply below_drew1 | refine below_set ?_ GE131.out) | exact HB.out)) hb); clear BK131; clear HB; have BK131 := n0_; have HB := n1_; clear n0_ n1_; (try clear hb); (try clear hb2); (try clear hk); (try clear hi)))
                                  repeat (go_quiet (first | (go_at_call 55; (with_reducible refine (marquetryref09_Check.calls kj19 ((rd_T62 l0 x3_1).f3) ((rd_T62 l0 x3_1).f4) true _ A37.out).mono ?_); rintro e w40 ⟨rfl, hb⟩; have n0_ := Aside0.mk (blk_below (g := gb131) (o := .cells #[.string ((rd_T62 l0 x3_1).f0), .int .i64 ((rd_T62 l0 x3_1).f1), .bool ((rd_T62 l0 x3_1).f2), .int .i64 ((rd_T62 l0 x3_1).f3), .int .i64 ((rd_T62 l0 x3_1).f4), .slice A130_5 ((rd_T62 l0 x3_1).f5).length c130_5] 62 (0, 0)) (by (with_reducible repeat (first | refine blk_drewN ?_ _ | refine blk_drew ?_ | refine blk_alloc ?_ _)); exact BK131.out) hb); have n1_ := Aside0.mk (below_step (by repeat (first | (with_reducible first | exact HB.out | apply below_alloc | apply pw_below_drewN | apply below_drew1 | refine below_set ?_ GE131.out) | exact HB.out)) hb); clear BK131; clear HB; have BK131 := n0_; have HB := n1_; clear n0_ n1_; (try clear hb); (try clear hb2); (try clear hk); (try clear hi))); try go_wp2_with (first | (go_at_call 55; (with_reducible refine (marquetryref09_Check.calls kj19 ((rd_T62 l0 x3_1).f3) ((rd_T62 l0 x3_1).f4) true _ A37.out).mono ?_); rintro e w40 ⟨rfl, hb⟩; have n0_ := Aside0.mk (blk_below (g := gb131) (o := .cells #[.string ((rd_T62 l0 x3_1).f0), .int .i64 ((rd_T62 l0 x3_1).f1), .bool ((rd_T62 l0 x3_1).f2), .int .i64 ((rd_T62 l0 x3_1).f3), .int .i64 ((rd_T62 l0 x3_1).f4), .slice A130_5 ((rd_T62 l0 x3_1).f5).length c130_5] 62 (0, 0)) (by (with_reducible repeat (first | refine blk_drewN ?_ _ | refine blk_drew ?_ | refine blk_alloc ?_ _)); exact BK131.out) hb); have n1_ := Aside0.mk (below_step (by repeat (first | (with_reducible first | exact HB.out | apply below_alloc | apply pw_below_drewN | apply below_drew1 | refine below_set ?_ GE131.out) | exact HB.out)) hb); clear BK131; clear HB; have BK131 := n0_; have HB := n1_; clear n0_ n1_; (try clear hb); (try clear hb2); (try clear hk); (try clear hi))))
                                  go_roundg kj19
                                  case measure => have := HK1.out; have := HK2.out; have := HJ11.out; have := HJ19.out; omega
                                  case rel => exact ⟨(wrap64 (x3_1 + 1)), (by first | rfl | (simp; done) | (simp [*]; done)), H', ⟨by have := HK1.out; have := HK2.out; have := HJ11.out; have := HJ19.out; omega⟩, ⟨by repeat (first | (with_reducible first | exact HB.out | apply below_alloc | apply pw_below_drewN | apply below_drew1 | refine below_set ?_ GE131.out) | exact HB.out)⟩⟩
                                · replace c38 := Bool.eq_false_iff.mpr c38
                                  subst c38
                                  have H1 : (some false) = some r := by rw [if_neg (show ¬ (false = true) by decide)] at H; exact H
                                  clear H
                                  have H := H1
                                  clear H1
                                  obtain rfl := Option.some.inj H
                                  have hcz41_0 : wc.cell? ⟨gb131, 0, none⟩ = some (.string ((rd_T62 l0 x3_1).f0)) := (blk_cell BK131.out 0).trans rfl
                                  have hcz41_1 : wc.cell? ⟨gb131, 1, none⟩ = some (.int .i64 ((rd_T62 l0 x3_1).f1)) := (blk_cell BK131.out 1).trans rfl
                                  have hcz41_2 : wc.cell? ⟨gb131, 2, none⟩ = some (.bool ((rd_T62 l0 x3_1).f2)) := (blk_cell BK131.out 2).trans rfl
                                  have hcz41_3 : wc.cell? ⟨gb131, 3, none⟩ = some (.int .i64 ((rd_T62 l0 x3_1).f3)) := (blk_cell BK131.out 3).trans rfl
                                  have hcz41_4 : wc.cell? ⟨gb131, 4, none⟩ = some (.int .i64 ((rd_T62 l0 x3_1).f4)) := (blk_cell BK131.out 4).trans rfl
                                  have hcz41_5 : wc.cell? ⟨gb131, 5, none⟩ = some (.slice A130_5 ((rd_T62 l0 x3_1).f5).length c130_5) := (blk_cell BK131.out 5).trans rfl
                                  have hfz41_0 := blk_frozen BK131.out 0
                                  have hfz41_1 := blk_frozen BK131.out 1
                                  have hfz41_2 := blk_frozen BK131.out 2
                                  have hfz41_3 := blk_frozen BK131.out 3
                                  have hfz41_4 := blk_frozen BK131.out 4
                                  have hfz41_5 := blk_frozen BK131.out 5
                                  go_wp2_with (first | (go_at_call 55; (with_reducible refine (marquetryref09_Check.calls kj19 ((rd_T62 l0 x3_1).f3) ((rd_T62 l0 x3_1).f4) false _ A37.out).mono ?_); rintro e w42 ⟨rfl, hb⟩; have n0_ := Aside0.mk (blk_below (g := gb131) (o := .cells #[.string ((rd_T62 l0 x3_1).f0), .int .i64 ((rd_T62 l0 x3_1).f1), .bool ((rd_T62 l0 x3_1).f2), .int .i64 ((rd_T62 l0 x3_1).f3), .int .i64 ((rd_T62 l0 x3_1).f4), .slice A130_5 ((rd_T62 l0 x3_1).f5).length c130_5] 62 (0, 0)) (by (with_reducible repeat (first | refine blk_drewN ?_ _ | refine blk_drew ?_ | refine blk_alloc ?_ _)); exact BK131.out) hb); have n1_ := Aside0.mk (below_step (by repeat (first | (with_reducible first | exact HB.out | apply below_alloc | apply pw_below_drewN | apply below_drew1 | refine below_set ?_ GE131.out) | exact HB.out)) hb); clear BK131; clear HB; have BK131 := n0_; have HB := n1_; clear n0_ n1_; (try clear hb); (try clear hb2); (try clear hk); (try clear hi)))
                                  repeat (go_quiet (first | (go_at_call 55; (with_reducible refine (marquetryref09_Check.calls kj19 ((rd_T62 l0 x3_1).f3) ((rd_T62 l0 x3_1).f4) false _ A37.out).mono ?_); rintro e w42 ⟨rfl, hb⟩; have n0_ := Aside0.mk (blk_below (g := gb131) (o := .cells #[.string ((rd_T62 l0 x3_1).f0), .int .i64 ((rd_T62 l0 x3_1).f1), .bool ((rd_T62 l0 x3_1).f2), .int .i64 ((rd_T62 l0 x3_1).f3), .int .i64 ((rd_T62 l0 x3_1).f4), .slice A130_5 ((rd_T62 l0 x3_1).f5).length c130_5] 62 (0, 0)) (by (with_reducible repeat (first | refine blk_drewN ?_ _ | refine blk_drew ?_ | refine blk_alloc ?_ _)); exact BK131.out) hb); have n1_ := Aside0.mk (below_step (by repeat (first | (with_reducible first | exact HB.out | apply below_alloc | apply pw_below_drewN | apply below_drew1 | refine below_set ?_ GE131.out) | exact HB.out)) hb); clear BK131; clear HB; have BK131 := n0_; have HB := n1_; clear n0_ n1_; (try clear hb); (try clear hb2); (try clear hk); (try clear hi))); try go_wp2_with (first | (go_at_call 55; (with_reducible refine (marquetryref09_Check.calls kj19 ((rd_T62 l0 x3_1).f3) ((rd_T62 l0 x3_1).f4) false _ A37.out).mono ?_); rintro e w42 ⟨rfl, hb⟩; have n0_ := Aside0.mk (blk_below (g := gb131) (o := .cells #[.string ((rd_T62 l0 x3_1).f0), .int .i64 ((rd_T62 l0 x3_1).f1), .bool ((rd_T62 l0 x3_1).f2), .int .i64 ((rd_T62 l0 x3_1).f3), .int .i64 ((rd_T62 l0 x3_1).f4), .slice A130_5 ((rd_T62 l0 x3_1).f5).length c130_5] 62 (0, 0)) (by (with_reducible repeat (first | refine blk_drewN ?_ _ | refine blk_drew ?_ | refine blk_alloc ?_ _)); exact BK131.out) hb); have n1_ := Aside0.mk (below_step (by repeat (first | (with_reducible first | exact HB.out | apply below_alloc | apply pw_below_drewN | apply below_drew1 | refine below_set ?_ GE131.out) | exact HB.out)) hb); clear BK131; clear HB; have BK131 := n0_; have HB := n1_; clear n0_ n1_; (try clear hb); (try clear hb2); (try clear hk); (try clear hi))))
                                  go_ret
                                  exact ⟨by first | rfl | (simp [errW_none, errW_some] <;> rfl) | (simp [*, errW_none, errW_some] <;> rfl), by repeat (first | (with_reducible first | exact HB.out | apply below_alloc | apply pw_below_drewN | apply below_drew1 | refine below_set ?_ GE131.out) | exact HB.out)⟩
        · rw [if_neg c3] at H
          exact absurd H (by simp)
      · rw [if_neg c2] at H
        have c2b0 : decide (x3_1 < (l0.length : Int)) = false := decide_eq_false c2
        clear c2
        obtain rfl := Option.some.inj H
        go_wp2
        repeat (go_quiet (fail); try go_wp2)
        go_ret
        exact ⟨by first | rfl | (simp [errW_none, errW_some] <;> rfl) | (simp [*, errW_none, errW_some] <;> rfl), by repeat (first | (with_reducible first | exact HB.out | apply below_alloc | apply pw_below_drewN | apply below_drew1) | exact HB.out)⟩

end Go.Proofs.YtjdjlccdidfgoaaDoor.H
end
section
-- Laid by this session's hprint.py, out of the kit's print.py and texts of the session. Not trusted: Lean checks it.
namespace Go.Proofs.YtjdjlccdidfgoaaDoor.H
open Go.RowKit Go.Proofs.YtjdjlccdidfgoaaDoorW.PrintWords Go.Proofs.YtjdjlccdidfgoaaDoorW.PrintLast Go.Proofs.YtjdjlccdidfgoaaDoorW.PrintMore
attribute [local go_sem] max2_int min2_int max_two min_two max_three min_three max_four min_four   -- for this text's walks alone
set_option linter.unusedVariables false
set_option linter.unusedSimpArgs false

/-! ### marquetryref16_Check: function 11 -/
def marquetryref16_Check.f (k : Nat) (a0_0 : ByteArray) (l0_1 : List (S62)) : Option (Bool) := (marquetryref16_named.f k a0_0).bind fun t137 => (if t137 = true then (if (l0_1.length : Int) > 0 then ((marquetryref16_Count.f k l0_1).bind fun t138 => (if t138 ≤ 256 then ((marquetryref16_deep.f k l0_1 33).bind fun t139 => (if t139 ≤ 32 then ((marquetryref16_fine.f k l0_1).bind fun t140 => (some t140)) else (some false))) else (some false))) else (some false)) else (some false))
set_option maxHeartbeats 8000000 in
set_option maxRecDepth 100000 in
theorem marquetryref16_Check.calls (k : Nat) (a0_0 : ByteArray) (A0_1 : Option Addr) (c0_1 : Nat) (l0_1 : List (S62)) (r : Bool) (w : World) (hr0_1 : Kd.C k62 w A0_1 l0_1.length l0_1) (hc0_1 : l0_1.length ≤ c0_1) (h : marquetryref16_Check.f k a0_0 l0_1 = some r) :
    Calls Tryd.prog 11 #[.agg #[.string a0_0, .slice A0_1 l0_1.length c0_1]] w fun e w' => e = .returned (.bool r) ∧ Below w.heap.size w w' := by
  have hu24 := Tryd.underlying24
  have HR0_1 := Aside0.mk hr0_1
  have HC0_1 := Aside0.mk hc0_1
  clear hr0_1 hc0_1
  have HB := Aside0.mk (Below.refl w.heap.size w)
  have H : ((marquetryref16_named.f k a0_0).bind fun t137 => (if t137 = true then (if (l0_1.length : Int) > 0 then ((marquetryref16_Count.f k l0_1).bind fun t138 => (if t138 ≤ 256 then ((marquetryref16_deep.f k l0_1 33).bind fun t139 => (if t139 ≤ 32 then ((marquetryref16_fine.f k l0_1).bind fun t140 => (some t140)) else (some false))) else (some false))) else (some false)) else (some false))) = some r := h
  clear h
  replace H := Option.bind_eq_some_iff.mp H
  obtain ⟨t137, A20, H⟩ := H
  replace H : (if t137 = true then (if (l0_1.length : Int) > 0 then ((marquetryref16_Count.f k l0_1).bind fun t138 => (if t138 ≤ 256 then ((marquetryref16_deep.f k l0_1 33).bind fun t139 => (if t139 ≤ 32 then ((marquetryref16_fine.f k l0_1).bind fun t140 => (some t140)) else (some false))) else (some false))) else (some false)) else (some false)) = some r := H
  have A2 := Aside0.mk A20
  clear A20
  by_cases c3 : t137 = true
  · subst c3
    have H1 : (if (l0_1.length : Int) > 0 then ((marquetryref16_Count.f k l0_1).bind fun t138 => (if t138 ≤ 256 then ((marquetryref16_deep.f k l0_1 33).bind fun t139 => (if t139 ≤ 32 then ((marquetryref16_fine.f k l0_1).bind fun t140 => (some t140)) else (some false))) else (some false))) else (some false)) = some r := by rw [if_pos rfl] at H; exact H
    clear H
    have H := H1
    clear H1
    by_cases c4 : (l0_1.length : Int) > 0
    · rw [if_pos c4] at H
      have c4b0 : decide (0 < (l0_1.length : Int)) = true := decide_eq_true c4
      have c4b1 : decide (0 < l0_1.length) = true := decide_eq_true (by omega)
      clear c4
      replace H := Option.bind_eq_some_iff.mp H
      obtain ⟨t138, A50, H⟩ := H
      replace H : (if t138 ≤ 256 then ((marquetryref16_deep.f k l0_1 33).bind fun t139 => (if t139 ≤ 32 then ((marquetryref16_fine.f k l0_1).bind fun t140 => (some t140)) else (some false))) else (some false)) = some r := H
      have A5 := Aside0.mk A50
      clear A50
      by_cases c6 : t138 ≤ 256
      · rw [if_pos c6] at H
        have c6b0 : decide (t138 ≤ 256) = true := decide_eq_true c6
        clear c6
        replace H := Option.bind_eq_some_iff.mp H
        obtain ⟨t139, A70, H⟩ := H
        replace H : (if t139 ≤ 32 then ((marquetryref16_fine.f k l0_1).bind fun t140 => (some t140)) else (some false)) = some r := H
        have A7 := Aside0.mk A70
        clear A70
        by_cases c8 : t139 ≤ 32
        · rw [if_pos c8] at H
          have c8b0 : decide (t139 ≤ 32) = true := decide_eq_true c8
          clear c8
          replace H := Option.bind_eq_some_iff.mp H
          obtain ⟨t140, A90, H⟩ := H
          replace H : (some t140) = some r := H
          have A9 := Aside0.mk A90
          clear A90
          obtain rfl := Option.some.inj H
          go_enter Tryd.func11, Tryd.ntmps11
          go_wp2_with (first | ((with_reducible refine gate_dst (N := 1) rfl ?_); (try (refine gate_guard (by rfl) ?_; dsimp only)); refine box_event ?hg (N := 1) ?hd (cs := #[.string a0_0, .slice A0_1 l0_1.length c0_1]) (t := 24) ?hr ?_; (case hd => rfl); (case hg => rfl); (case hr => first | (go_simp; done) | (go_simp; rfl)); intro gb136 hg w10 hbox hb; have n0_ := Aside0.mk (below_step (by repeat (first | (with_reducible first | exact HB.out | apply below_alloc | apply pw_below_drewN | apply below_drew1) | exact HB.out)) hb); have n1_ := Aside0.mk (hbox); have n2_ := Aside0.mk ((by rw [hg]; exact (below_size (by repeat (first | (with_reducible first | exact HB.out | apply below_alloc | apply pw_below_drewN | apply below_drew1) | exact HB.out))) : w.heap.size ≤ gb136)); have n3_ := Aside0.mk ((by rw [hg]; exact (below_size (by repeat (first | (with_reducible first | exact HB.out | apply below_alloc | apply pw_below_drewN | apply below_drew1) | exact HB.out))) : w.heap.size ≤ gb136)); clear HB; have HB := n0_; have BK136 := n1_; have GW136 := n2_; have GE136 := n3_; clear n0_ n1_ n2_ n3_; clear hb hbox hg; have hcz11_0 : w10.cell? ⟨gb136, 0, none⟩ = some (.string a0_0) := (blk_cell BK136.out 0).trans rfl; have hcz11_1 : w10.cell? ⟨gb136, 1, none⟩ = some (.slice A0_1 l0_1.length c0_1) := (blk_cell BK136.out 1).trans rfl; have hfz11_0 := blk_frozen BK136.out 0; have hfz11_1 := blk_frozen BK136.out 1) | ((with_reducible refine gate_callee (f := 29) rfl ?_); refine goesL_ (some 5) rfl rfl Tryd.func29 (by kernel_rfl) rfl #[.string a0_0] rfl (by (try simp only [List.map_toArray, List.map_cons, List.map_nil]); first | done | rfl | (simp only [List.length_drop, List.length_take]; rfl)) ?_; (with_reducible refine (marquetryref16_named.calls k a0_0 true _ A2.out).mono ?_); rintro e w' ⟨rfl, ⟨nd, rfl⟩⟩; refine ⟨_, rfl, ?_⟩) | (go_at_call 8; (with_reducible refine (marquetryref16_Count.calls k _ _ l0_1 t138 _ ?side1 ?side2 A5.out).mono ?_); (case side1 => repeat (first | exact (Kd.C_below HR0_1.out (by repeat (first | (with_reducible first | exact HB.out | apply below_alloc | apply pw_below_drewN | apply below_drew1 | refine below_set ?_ GE136.out) | exact HB.out))) | (with_reducible refine Kd.C_alloc ?_ _) | (with_reducible refine Kd.C_drewN ?_ _) | (with_reducible refine Kd.C_drew ?_))); (case side2 => exact HC0_1.out); rintro e w' ⟨rfl, ⟨nd, rfl⟩⟩) | (go_at_call 30; (with_reducible refine (marquetryref16_deep.calls k _ _ l0_1 33 t139 _ ?side1 ?side2 A7.out).mono ?_); (case side1 => repeat (first | exact (Kd.C_below HR0_1.out (by repeat (first | (with_reducible first | exact HB.out | apply below_alloc | apply pw_below_drewN | apply below_drew1 | refine below_set ?_ GE136.out) | exact HB.out))) | (with_reducible refine Kd.C_alloc ?_ _) | (with_reducible refine Kd.C_drewN ?_ _) | (with_reducible refine Kd.C_drew ?_))); (case side2 => exact HC0_1.out); rintro e w12 ⟨rfl, hb⟩; have n0_ := Aside0.mk (blk_below (g := gb136) (o := .cells #[.string a0_0, .slice A0_1 l0_1.length c0_1] 24 (0, 0)) (by (with_reducible repeat (first | refine blk_drewN ?_ _ | refine blk_drew ?_ | refine blk_alloc ?_ _)); exact BK136.out) hb); have n1_ := Aside0.mk (below_step (by repeat (first | (with_reducible first | exact HB.out | apply below_alloc | apply pw_below_drewN | apply below_drew1 | refine below_set ?_ GE136.out) | exact HB.out)) hb); clear BK136; clear HB; have BK136 := n0_; have HB := n1_; clear n0_ n1_; (try clear hb); (try clear hb2); (try clear hk); (try clear hi); have hcz13_0 : w12.cell? ⟨gb136, 0, none⟩ = some (.string a0_0) := (blk_cell BK136.out 0).trans rfl; have hcz13_1 : w12.cell? ⟨gb136, 1, none⟩ = some (.slice A0_1 l0_1.length c0_1) := (blk_cell BK136.out 1).trans rfl; have hfz13_0 := blk_frozen BK136.out 0; have hfz13_1 := blk_frozen BK136.out 1) | (go_at_call 31; (with_reducible refine (marquetryref16_fine.calls k _ _ l0_1 t140 _ ?side1 ?side2 A9.out).mono ?_); (case side1 => repeat (first | exact (Kd.C_below HR0_1.out HB.out) | (with_reducible refine Kd.C_alloc ?_ _) | (with_reducible refine Kd.C_drewN ?_ _) | (with_reducible refine Kd.C_drew ?_))); (case side2 => exact HC0_1.out); rintro e w14 ⟨rfl, hb⟩; have n0_ := Aside0.mk (blk_below (g := gb136) (o := .cells #[.string a0_0, .slice A0_1 l0_1.length c0_1] 24 (0, 0)) (by (with_reducible repeat (first | refine blk_drewN ?_ _ | refine blk_drew ?_ | refine blk_alloc ?_ _)); exact BK136.out) hb); have n1_ := Aside0.mk (below_step (by repeat (first | (with_reducible first | exact HB.out | apply below_alloc | apply pw_below_drewN | apply below_drew1 | refine below_set ?_ GE136.out) | exact HB.out)) hb); clear BK136; clear HB; have BK136 := n0_; have HB := n1_; clear n0_ n1_; (try clear hb); (try clear hb2); (try clear hk); (try clear hi)))
          go_ret
          exact ⟨by first | rfl | (simp [errW_none, errW_some] <;> rfl) | (simp [*, errW_none, errW_some] <;> rfl), by repeat (first | (with_reducible first | exact HB.out | apply below_alloc | apply pw_below_drewN | apply below_drew1 | refine below_set ?_ GE136.out) | exact HB.out)⟩
        · rw [if_neg c8] at H
          have c8b0 : decide (t139 ≤ 32) = false := decide_eq_false c8
          clear c8
          obtain rfl := Option.some.inj H
          go_enter Tryd.func11, Tryd.ntmps11
          go_wp2_with (first | ((with_reducible refine gate_dst (N := 1) rfl ?_); (try (refine gate_guard (by rfl) ?_; dsimp only)); refine box_event ?hg (N := 1) ?hd (cs := #[.string a0_0, .slice A0_1 l0_1.length c0_1]) (t := 24) ?hr ?_; (case hd => rfl); (case hg => rfl); (case hr => first | (go_simp; done) | (go_simp; rfl)); intro gb136 hg w15 hbox hb; have n0_ := Aside0.mk (below_step (by repeat (first | (with_reducible first | exact HB.out | apply below_alloc | apply pw_below_drewN | apply below_drew1) | exact HB.out)) hb); have n1_ := Aside0.mk (hbox); have n2_ := Aside0.mk ((by rw [hg]; exact (below_size (by repeat (first | (with_reducible first | exact HB.out | apply below_alloc | apply pw_below_drewN | apply below_drew1) | exact HB.out))) : w.heap.size ≤ gb136)); have n3_ := Aside0.mk ((by rw [hg]; exact (below_size (by repeat (first | (with_reducible first | exact HB.out | apply below_alloc | apply pw_below_drewN | apply below_drew1) | exact HB.out))) : w.heap.size ≤ gb136)); clear HB; have HB := n0_; have BK136 := n1_; have GW136 := n2_; have GE136 := n3_; clear n0_ n1_ n2_ n3_; clear hb hbox hg; have hcz16_0 : w15.cell? ⟨gb136, 0, none⟩ = some (.string a0_0) := (blk_cell BK136.out 0).trans rfl; have hcz16_1 : w15.cell? ⟨gb136, 1, none⟩ = some (.slice A0_1 l0_1.length c0_1) := (blk_cell BK136.out 1).trans rfl; have hfz16_0 := blk_frozen BK136.out 0; have hfz16_1 := blk_frozen BK136.out 1) | ((with_reducible refine gate_callee (f := 29) rfl ?_); refine goesL_ (some 5) rfl rfl Tryd.func29 (by kernel_rfl) rfl #[.string a0_0] rfl (by (try simp only [List.map_toArray, List.map_cons, List.map_nil]); first | done | rfl | (simp only [List.length_drop, List.length_take]; rfl)) ?_; (with_reducible refine (marquetryref16_named.calls k a0_0 true _ A2.out).mono ?_); rintro e w' ⟨rfl, ⟨nd, rfl⟩⟩; refine ⟨_, rfl, ?_⟩) | (go_at_call 8; (with_reducible refine (marquetryref16_Count.calls k _ _ l0_1 t138 _ ?side1 ?side2 A5.out).mono ?_); (case side1 => repeat (first | exact (Kd.C_below HR0_1.out (by repeat (first | (with_reducible first | exact HB.out | apply below_alloc | apply pw_below_drewN | apply below_drew1 | refine below_set ?_ GE136.out) | exact HB.out))) | (with_reducible refine Kd.C_alloc ?_ _) | (with_reducible refine Kd.C_drewN ?_ _) | (with_reducible refine Kd.C_drew ?_))); (case side2 => exact HC0_1.out); rintro e w' ⟨rfl, ⟨nd, rfl⟩⟩) | (go_at_call 30; (with_reducible refine (marquetryref16_deep.calls k _ _ l0_1 33 t139 _ ?side1 ?side2 A7.out).mono ?_); (case side1 => repeat (first | exact (Kd.C_below HR0_1.out (by repeat (first | (with_reducible first | exact HB.out | apply below_alloc | apply pw_below_drewN | apply below_drew1 | refine below_set ?_ GE136.out) | exact HB.out))) | (with_reducible refine Kd.C_alloc ?_ _) | (with_reducible refine Kd.C_drewN ?_ _) | (with_reducible refine Kd.C_drew ?_))); (case side2 => exact HC0_1.out); rintro e w17 ⟨rfl, hb⟩; have n0_ := Aside0.mk (blk_below (g := gb136) (o := .cells #[.string a0_0, .slice A0_1 l0_1.length c0_1] 24 (0, 0)) (by (with_reducible repeat (first | refine blk_drewN ?_ _ | refine blk_drew ?_ | refine blk_alloc ?_ _)); exact BK136.out) hb); have n1_ := Aside0.mk (below_step (by repeat (first | (with_reducible first | exact HB.out | apply below_alloc | apply pw_below_drewN | apply below_drew1 | refine below_set ?_ GE136.out) | exact HB.out)) hb); clear BK136; clear HB; have BK136 := n0_; have HB := n1_; clear n0_ n1_; (try clear hb); (try clear hb2); (try clear hk); (try clear hi)))
          go_ret
          exact ⟨by first | rfl | (simp [errW_none, errW_some] <;> rfl) | (simp [*, errW_none, errW_some] <;> rfl), by repeat (first | (with_reducible first | exact HB.out | apply below_alloc | apply pw_below_drewN | apply below_drew1 | refine below_set ?_ GE136.out) | exact HB.out)⟩
      · rw [if_neg c6] at H
        have c6b0 : decide (t138 ≤ 256) = false := decide_eq_false c6
        clear c6
        obtain rfl := Option.some.inj H
        go_enter Tryd.func11, Tryd.ntmps11
        go_wp2_with (first | ((with_reducible refine gate_dst (N := 1) rfl ?_); (try (refine gate_guard (by rfl) ?_; dsimp only)); refine box_event ?hg (N := 1) ?hd (cs := #[.string a0_0, .slice A0_1 l0_1.length c0_1]) (t := 24) ?hr ?_; (case hd => rfl); (case hg => rfl); (case hr => first | (go_simp; done) | (go_simp; rfl)); intro gb136 hg w18 hbox hb; have n0_ := Aside0.mk (below_step (by repeat (first | (with_reducible first | exact HB.out | apply below_alloc | apply pw_below_drewN | apply below_drew1) | exact HB.out)) hb); have n1_ := Aside0.mk (hbox); have n2_ := Aside0.mk ((by rw [hg]; exact (below_size (by repeat (first | (with_reducible first | exact HB.out | apply below_alloc | apply pw_below_drewN | apply below_drew1) | exact HB.out))) : w.heap.size ≤ gb136)); have n3_ := Aside0.mk ((by rw [hg]; exact (below_size (by repeat (first | (with_reducible first | exact HB.out | apply below_alloc | apply pw_below_drewN | apply below_drew1) | exact HB.out))) : w.heap.size ≤ gb136)); clear HB; have HB := n0_; have BK136 := n1_; have GW136 := n2_; have GE136 := n3_; clear n0_ n1_ n2_ n3_; clear hb hbox hg; have hcz19_0 : w18.cell? ⟨gb136, 0, none⟩ = some (.string a0_0) := (blk_cell BK136.out 0).trans rfl; have hcz19_1 : w18.cell? ⟨gb136, 1, none⟩ = some (.slice A0_1 l0_1.length c0_1) := (blk_cell BK136.out 1).trans rfl; have hfz19_0 := blk_frozen BK136.out 0; have hfz19_1 := blk_frozen BK136.out 1) | ((with_reducible refine gate_callee (f := 29) rfl ?_); refine goesL_ (some 5) rfl rfl Tryd.func29 (by kernel_rfl) rfl #[.string a0_0] rfl (by (try simp only [List.map_toArray, List.map_cons, List.map_nil]); first | done | rfl | (simp only [List.length_drop, List.length_take]; rfl)) ?_; (with_reducible refine (marquetryref16_named.calls k a0_0 true _ A2.out).mono ?_); rintro e w' ⟨rfl, ⟨nd, rfl⟩⟩; refine ⟨_, rfl, ?_⟩) | (go_at_call 8; (with_reducible refine (marquetryref16_Count.calls k _ _ l0_1 t138 _ ?side1 ?side2 A5.out).mono ?_); (case side1 => repeat (first | exact (Kd.C_below HR0_1.out (by repeat (first | (with_reducible first | exact HB.out | apply below_alloc | apply pw_below_drewN | apply below_drew1 | refine below_set ?_ GE136.out) | exact HB.out))) | (with_reducible refine Kd.C_alloc ?_ _) | (with_reducible refine Kd.C_drewN ?_ _) | (with_reducible refine Kd.C_drew ?_))); (case side2 => exact HC0_1.out); rintro e w' ⟨rfl, ⟨nd, rfl⟩⟩))
        go_ret
        exact ⟨by first | rfl | (simp [errW_none, errW_some] <;> rfl) | (simp [*, errW_none, errW_some] <;> rfl), by repeat (first | (with_reducible first | exact HB.out | apply below_alloc | apply pw_below_drewN | apply below_drew1 | refine below_set ?_ GE136.out) | exact HB.out)⟩
    · rw [if_neg c4] at H
      have c4b0 : decide (0 < (l0_1.length : Int)) = false := decide_eq_false c4
      have c4b1 : decide (0 < l0_1.length) = false := decide_eq_false (by omega)
      clear c4
      obtain rfl := Option.some.inj H
      go_enter Tryd.func11, Tryd.ntmps11
      go_wp2_with (first | ((with_reducible refine gate_dst (N := 1) rfl ?_); (try (refine gate_guard (by rfl) ?_; dsimp only)); refine box_event ?hg (N := 1) ?hd (cs := #[.string a0_0, .slice A0_1 l0_1.length c0_1]) (t := 24) ?hr ?_; (case hd => rfl); (case hg => rfl); (case hr => first | (go_simp; done) | (go_simp; rfl)); intro gb136 hg w20 hbox hb; have n0_ := Aside0.mk (below_step (by repeat (first | (with_reducible first | exact HB.out | apply below_alloc | apply pw_below_drewN | apply below_drew1) | exact HB.out)) hb); have n1_ := Aside0.mk (hbox); have n2_ := Aside0.mk ((by rw [hg]; exact (below_size (by repeat (first | (with_reducible first | exact HB.out | apply below_alloc | apply pw_below_drewN | apply below_drew1) | exact HB.out))) : w.heap.size ≤ gb136)); have n3_ := Aside0.mk ((by rw [hg]; exact (below_size (by repeat (first | (with_reducible first | exact HB.out | apply below_alloc | apply pw_below_drewN | apply below_drew1) | exact HB.out))) : w.heap.size ≤ gb136)); clear HB; have HB := n0_; have BK136 := n1_; have GW136 := n2_; have GE136 := n3_; clear n0_ n1_ n2_ n3_; clear hb hbox hg; have hcz21_0 : w20.cell? ⟨gb136, 0, none⟩ = some (.string a0_0) := (blk_cell BK136.out 0).trans rfl; have hcz21_1 : w20.cell? ⟨gb136, 1, none⟩ = some (.slice A0_1 l0_1.length c0_1) := (blk_cell BK136.out 1).trans rfl; have hfz21_0 := blk_frozen BK136.out 0; have hfz21_1 := blk_frozen BK136.out 1) | ((with_reducible refine gate_callee (f := 29) rfl ?_); refine goesL_ (some 5) rfl rfl Tryd.func29 (by kernel_rfl) rfl #[.string a0_0] rfl (by (try simp only [List.map_toArray, List.map_cons, List.map_nil]); first | done | rfl | (simp only [List.length_drop, List.length_take]; rfl)) ?_; (with_reducible refine (marquetryref16_named.calls k a0_0 true _ A2.out).mono ?_); rintro e w' ⟨rfl, ⟨nd, rfl⟩⟩; refine ⟨_, rfl, ?_⟩))
      go_ret
      exact ⟨by first | rfl | (simp [errW_none, errW_some] <;> rfl) | (simp [*, errW_none, errW_some] <;> rfl), by repeat (first | (with_reducible first | exact HB.out | apply below_alloc | apply pw_below_drewN | apply below_drew1 | refine below_set ?_ GE136.out) | exact HB.out)⟩
  · replace c3 := Bool.eq_false_iff.mpr c3
    subst c3
    have H1 : (some false) = some r := by rw [if_neg (show ¬ (false = true) by decide)] at H; exact H
    clear H
    have H := H1
    clear H1
    obtain rfl := Option.some.inj H
    go_enter Tryd.func11, Tryd.ntmps11
    go_wp2_with (first | ((with_reducible refine gate_dst (N := 1) rfl ?_); (try (refine gate_guard (by rfl) ?_; dsimp only)); refine box_event ?hg (N := 1) ?hd (cs := #[.string a0_0, .slice A0_1 l0_1.length c0_1]) (t := 24) ?hr ?_; (case hd => rfl); (case hg => rfl); (case hr => first | (go_simp; done) | (go_simp; rfl)); intro gb136 hg w22 hbox hb; have n0_ := Aside0.mk (below_step (by repeat (first | (with_reducible first | exact HB.out | apply below_alloc | apply pw_below_drewN | apply below_drew1) | exact HB.out)) hb); have n1_ := Aside0.mk (hbox); have n2_ := Aside0.mk ((by rw [hg]; exact (below_size (by repeat (first | (with_reducible first | exact HB.out | apply below_alloc | apply pw_below_drewN | apply below_drew1) | exact HB.out))) : w.heap.size ≤ gb136)); have n3_ := Aside0.mk ((by rw [hg]; exact (below_size (by repeat (first | (with_reducible first | exact HB.out | apply below_alloc | apply pw_below_drewN | apply below_drew1) | exact HB.out))) : w.heap.size ≤ gb136)); clear HB; have HB := n0_; have BK136 := n1_; have GW136 := n2_; have GE136 := n3_; clear n0_ n1_ n2_ n3_; clear hb hbox hg; have hcz23_0 : w22.cell? ⟨gb136, 0, none⟩ = some (.string a0_0) := (blk_cell BK136.out 0).trans rfl; have hcz23_1 : w22.cell? ⟨gb136, 1, none⟩ = some (.slice A0_1 l0_1.length c0_1) := (blk_cell BK136.out 1).trans rfl; have hfz23_0 := blk_frozen BK136.out 0; have hfz23_1 := blk_frozen BK136.out 1) | ((with_reducible refine gate_callee (f := 29) rfl ?_); refine goesL_ (some 5) rfl rfl Tryd.func29 (by kernel_rfl) rfl #[.string a0_0] rfl (by (try simp only [List.map_toArray, List.map_cons, List.map_nil]); first | done | rfl | (simp only [List.length_drop, List.length_take]; rfl)) ?_; (with_reducible refine (marquetryref16_named.calls k a0_0 false _ A2.out).mono ?_); rintro e w' ⟨rfl, ⟨nd, rfl⟩⟩; refine ⟨_, rfl, ?_⟩))
    go_ret
    exact ⟨by first | rfl | (simp [errW_none, errW_some] <;> rfl) | (simp [*, errW_none, errW_some] <;> rfl), by repeat (first | (with_reducible first | exact HB.out | apply below_alloc | apply pw_below_drewN | apply below_drew1 | refine below_set ?_ GE136.out) | exact HB.out)⟩

end Go.Proofs.YtjdjlccdidfgoaaDoor.H
end
section
-- Laid by this session's hprint.py, out of the kit's print.py and texts of the session. Not trusted: Lean checks it.
namespace Go.Proofs.YtjdjlccdidfgoaaDoor.H
open Go.RowKit Go.Proofs.YtjdjlccdidfgoaaDoorW.PrintWords Go.Proofs.YtjdjlccdidfgoaaDoorW.PrintLast Go.Proofs.YtjdjlccdidfgoaaDoorW.PrintMore
attribute [local go_sem] max2_int min2_int max_two min_two max_three min_three max_four min_four   -- for this text's walks alone
set_option linter.unusedVariables false
set_option linter.unusedSimpArgs false

-- OVPART Derived.Test.YtjdjlccdidfgoaaDoorWLast
/-! ### api_Node: function 56 -/
/-- Two lists are alike, one by one. -/
def eqL {α : Type} (p : α → α → Bool) : List α → List α → Bool
  | [], [] => true
  | x :: xs, y :: ys => p x y && eqL p xs ys
  | _, _ => false
theorem eqL_len {α : Type} (p : α → α → Bool) : ∀ (l m : List α), l.length ≠ m.length → eqL p l m = false
  | [], [], h => absurd rfl h
  | _ :: _, [], _ => rfl
  | [], _ :: _, _ => rfl
  | x :: xs, y :: ys, h => by
    unfold eqL
    rw [eqL_len p xs ys (fun e => h (by simp [e]))]
    simp
theorem eqL_at {α : Type} (p : α → α → Bool) (l m : List α) (k : Nat) (hk : k < l.length) (hm : k < m.length) : eqL p (l.drop k) (m.drop k) = (p l[k] m[k] && eqL p (l.drop (k + 1)) (m.drop (k + 1))) := by
  rw [List.drop_eq_getElem_cons hk, List.drop_eq_getElem_cons hm]
  rfl
end Go.Proofs.YtjdjlccdidfgoaaDoor.H
end
section
-- Laid by this session's hprint.py, out of the kit's print.py and texts of the session. Not trusted: Lean checks it.
namespace Go.Proofs.YtjdjlccdidfgoaaDoor.H
open Go.RowKit Go.Proofs.YtjdjlccdidfgoaaDoorW.PrintWords Go.Proofs.YtjdjlccdidfgoaaDoorW.PrintLast Go.Proofs.YtjdjlccdidfgoaaDoorW.PrintMore
attribute [local go_sem] max2_int min2_int max_two min_two max_three min_three max_four min_four   -- for this text's walks alone
set_option linter.unusedVariables false
set_option linter.unusedSimpArgs false

/-! ### schema_copied: function 28 -/
end Go.Proofs.YtjdjlccdidfgoaaDoor.H
end
section
-- Laid by this session's hprint.py, out of the kit's print.py and texts of the session. Not trusted: Lean checks it.
namespace Go.Proofs.YtjdjlccdidfgoaaDoor.H
open Go.RowKit Go.Proofs.YtjdjlccdidfgoaaDoorW.PrintWords Go.Proofs.YtjdjlccdidfgoaaDoorW.PrintLast Go.Proofs.YtjdjlccdidfgoaaDoorW.PrintMore
attribute [local go_sem] max2_int min2_int max_two min_two max_three min_three max_four min_four   -- for this text's walks alone
set_option linter.unusedVariables false
set_option linter.unusedSimpArgs false

/-! ### schema_Copy: function 10 -/
end Go.Proofs.YtjdjlccdidfgoaaDoor.H
end
