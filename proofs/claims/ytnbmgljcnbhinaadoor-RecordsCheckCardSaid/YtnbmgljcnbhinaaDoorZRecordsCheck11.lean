/- Texts of the claim, packed: H12. -/
import Derived.Laws.EntriesVeiled
import Derived.Laws.NewBlocks
import Derived.Lib.Hide
import Derived.LoopIn
import Derived.LoopNIn
import Derived.OwnWalkIn
import Derived.RangeFuncBound
import Derived.RangeFuncCalls
import Derived.RangeFuncFrom
import Derived.RangeFuncLeaves
import Derived.RangeFuncNested
import Derived.Shelf.Abstract
import Derived.Shelf.RegionOpen
import Derived.TacticsInMore
import Derived.Test.YtnbmgljcnbhinaaDoorZRecordsCheck7
section
-- Laid by this session's hprint.py, out of the kit's print.py and texts of the session. Not trusted: Lean checks it.
namespace Go.Proofs.YtnbmgljcnbhinaaDoor.H
open Go.RowKit Go.Proofs.YtnbmgljcnbhinaaDoorW.PrintWords Go.Proofs.YtnbmgljcnbhinaaDoorW.PrintLast Go.Proofs.YtnbmgljcnbhinaaDoorW.PrintMore
attribute [local go_sem] max2_int min2_int max_two min_two max_three min_three max_four min_four   -- for this text's walks alone
set_option linter.unusedVariables false
set_option linter.unusedSimpArgs false

-- OVPART Derived.RangeFuncNested Derived.RangeFuncBound Derived.RangeFuncCalls Derived.RangeFuncLeaves Derived.RangeFuncFrom Derived.Shelf.Abstract Derived.Shelf.RegionOpen Derived.OwnWalkIn Derived.TacticsInMore Derived.LoopNIn Derived.LoopIn Derived.Lib.Hide Derived.Laws.NewBlocks Derived.Laws.EntriesVeiled
/-! ### records_fields: function 42 -/
open Go.Shelf
attribute [local go_sem] Oper.semAt_some
theorem room_none_ {F : Fence} (hd : F.depth = none) (k : Nat) : F.room k := fun d h => by rw [hd] at h; cases h
theorem RoundIn.anyD_ {F : Fence} (hd : F.depth = none) {m m' : Nat} {P : Program} {l : Nat} {f : FuncId} {tmps : Array Value} {assign body : Code} {w : World} {R : Ending → World → Prop}
    (h : RoundIn F m P l f tmps assign body w R) : RoundIn F m' P l f tmps assign body w R := ⟨h.1, fun c cs _ => h.2 c cs (room_none_ hd _)⟩
theorem YieldAt.anyD_ {F : Fence} (hd : F.depth = none) {m : Nat} (m' : Nat) {P : Program} {l : Nat} {args : Array Value} {W : World} {R : Ending → World → Prop} (h : YieldAt F m P l args W R) : YieldAt F m' P l args W R := by
  obtain ⟨fn, tmps, assign, body, hy, hR⟩ := h
  exact ⟨fn, tmps, assign, body, hy, RoundIn.anyD_ hd hR⟩
theorem szf_mem {α : Type} [SizeOf α] {x : α} {l : List α} (h : x ∈ l) : SizeOf.sizeOf x < SizeOf.sizeOf l := List.sizeOf_lt_of_mem h
theorem szf_field (x : S70) : SizeOf.sizeOf x.f0 < SizeOf.sizeOf x := by
  cases x
  simp
theorem szf_value (v : S74) : SizeOf.sizeOf v.f1 < SizeOf.sizeOf v := by
  cases v
  simp
  omega
mutual
/-- How many values there are. -/
def numF : List S70 → Nat
  | [] => 0
  | ⟨f⟩ :: xs => numV f + numF xs
def numV : List S74 → Nat
  | [] => 0
  | ⟨_, f⟩ :: vs => 1 + numF f + numV vs
end
theorem numF_cons (x : S70) (xs : List S70) : numF (x :: xs) = numV x.f0 + numF xs := by
  cases x
  rw [numF]
theorem numV_cons (v : S74) (vs : List S74) : numV (v :: vs) = 1 + numF v.f1 + numV vs := by
  cases v
  rw [numV]
theorem numF_app (a b : List S70) : numF (a ++ b) = numF a + numF b := by
  induction a with
  | nil => rw [List.nil_append, numF]; omega
  | cons x a ih => rw [List.cons_append, numF_cons, numF_cons, ih]; omega
theorem numV_app (a b : List S74) : numV (a ++ b) = numV a + numV b := by
  induction a with
  | nil => rw [List.nil_append, numV]; omega
  | cons x a ih => rw [List.cons_append, numV_cons, numV_cons, ih]; omega
theorem numF_next (l : List S70) (k : Nat) (h : k < l.length) : numF (l.take (k + 1)) = numF (l.take k) + numV l[k].f0 := by
  rw [List.take_succ_eq_append_getElem h, numF_app, numF_cons, numF]
  omega
theorem numV_next (l : List S74) (k : Nat) (h : k < l.length) : numV (l.take (k + 1)) = numV (l.take k) + (1 + numF l[k].f1) := by
  rw [List.take_succ_eq_append_getElem h, numV_app, numV_cons, numV]
  omega
theorem numF_le (l : List S70) (k : Nat) : numF (l.take k) ≤ numF l := by
  conv => rhs; rw [← List.take_append_drop k l]
  rw [numF_app]
  omega
theorem numV_le (l : List S74) (k : Nat) : numV (l.take k) ≤ numV l := by
  conv => rhs; rw [← List.take_append_drop k l]
  rw [numV_app]
  omega
/-- What lay below, and every block of cells but one, lies as it lay. -/
structure KeepN (n₀ NB : Nat) (W W' : World) : Prop where
  below : Below n₀ W W'
  size : W.heap.size ≤ W'.heap.size
  cells : ∀ k o, W.heap[k]? = some o → o.isCells = true → k ≠ NB → W'.heap[k]? = some o
theorem KeepN.refl (n₀ NB : Nat) (W : World) : KeepN n₀ NB W W := ⟨Below.refl _ _, Nat.le_refl _, fun _ _ h _ _ => h⟩
theorem KeepN.trans {n₀ NB : Nat} {A B C : World} (h : KeepN n₀ NB A B) (k : KeepN n₀ NB B C) : KeepN n₀ NB A C := ⟨h.below.trans k.below, Nat.le_trans h.size k.size, fun j o hj hc hn => k.cells j o (h.cells j o hj hc hn) hc hn⟩
theorem KeepN.alloc {n₀ NB : Nat} {A B : World} (h : KeepN n₀ NB A B) (hn : n₀ ≤ A.heap.size) (o : Obj) : KeepN n₀ NB A (B.alloc o) := ⟨h.below.alloc (Nat.le_trans hn h.size) o, by rw [World.size_alloc]; have := h.size; omega, fun j o' hj hc hne => by
  have hb := h.cells j o' hj hc hne
  exact blk_alloc hb o⟩
theorem KeepN.put {n₀ NB : Nat} {A : World} {l : Nat} {o : Obj} (o' : Obj) (hn : n₀ ≤ l) (hl : A.heap[l]? = some o) (ho : o.isCells = false) : KeepN n₀ NB A (A.putObj l o') :=
  ⟨(Below.refl n₀ A).grown (grownBy_putObj' A l o') (by have := (Array.getElem?_eq_some_iff.1 hl).1; omega) (fun k e => by cases e; exact hn), (grownBy_putObj' A l o').size, fun j x hj hc hne => (World.putObj_heap_other (fun e => by rw [e, hl] at hj; cases hj; rw [ho] at hc; cases hc)).trans hj⟩
/-- The iterator's own boxes: the round's function, the walk itself. -/
structure Box2 (W : World) (l b1 b2 : Nat) : Prop where
  y : W.heap[b1]? = some (.cells #[.func (.yield l) #[] #[]] 114 (0, 0))
  f : W.heap[b2]? = some (.cells #[.func (.func 68) #[] #[.pointer (some ⟨b1, 0, none⟩), .pointer (some ⟨b2, 0, none⟩)]] 115 (0, 0))
theorem Box2.next {W W' : World} {l b1 b2 n₀ NB : Nat} (h : Box2 W l b1 b2) (hk : KeepN n₀ NB W W') (h1 : b1 ≠ NB) (h2 : b2 ≠ NB) : Box2 W' l b1 b2 := ⟨hk.cells _ _ h.y rfl h1, hk.cells _ _ h.f rfl h2⟩
/-- What the walk does at fields that are no greater. -/
def WalkAt (n : Nat) : Prop := ∀ (l0 : List S70), SizeOf.sizeOf l0 ≤ n → ∀ (w0 : World) (NB l b1 b2 N : Nat) (J Jx : List Value → World → Prop) (A : Option Addr) (c m : Nat) (pre : List Value) (W : World),
  Kd.C k70 w0 A l0.length l0 → Below w0.heap.size w0 W → Box2 W l b1 b2 → b1 ≠ NB → b2 ≠ NB → NB < W.heap.size →
  (∀ pre W o, J pre W → J pre (W.alloc o)) →
  (∀ m pre x W, J pre W → pre.length < N → YieldAt Fence.wide m Tryd.prog l #[x] W fun e W' => (e = .returned (.bool true) ∧ J (pre ++ [x]) W' ∧ KeepN w0.heap.size NB W W') ∨ (e = .returned (.bool false) ∧ Jx (pre ++ [x]) W')) →
  J pre W → pre.length + numF l0 ≤ N →
  CallsIn Fence.wide m Tryd.prog 68 #[.slice A l0.length c, .pointer (some ⟨b1, 0, none⟩), .pointer (some ⟨b2, 0, none⟩)] W fun e W' =>
    (e = .returned (.bool true) ∧ ∃ ys : List Value, ys.length = numF l0 ∧ J (pre ++ ys) W' ∧ KeepN w0.heap.size NB W W') ∨ (e = .returned (.bool false) ∧ ∃ q : List Value, q.length ≤ numF l0 ∧ Jx (pre ++ q) W')
set_option maxRecDepth 100000 in
set_option maxHeartbeats 8000000 in
theorem walk_step {n : Nat} (ih : WalkAt n) : WalkAt (n + 1) := by
  intro l0 hn w0 NB l b1 b2 N J Jx A c m pre W hr hB hbx hb1 hb2 hNB hJa hY hJ hN
  have hmax := Kd.C_max hr
  refine callsIn_of_wp Tryd.func68 rfl trivial ?_ rfl
  simp only [Tryd.ntmps68, List.size_toArray, List.length_cons, List.length_nil, Nat.reduceAdd, Nat.reduceSub, Array.replicate_succ, Array.replicate_zero, List.push_toArray, List.append_toArray, List.nil_append, List.cons_append]
  gi_wp2
  gi_loopw [11] (fun v wr => ∃ (k : Nat) (ys : List Value), k ≤ l0.length ∧ v = .int .i64 k ∧ ys.length = numF (l0.take k) ∧ J (pre ++ ys) wr ∧ KeepN w0.heap.size NB W wr) (fun v _ => l0.length - (intOf v).toNat)
  case atStart => exact ⟨0, [], Nat.zero_le _, rfl, by simp [numF], by simpa using hJ, KeepN.refl _ _ _⟩
  case round =>
    obtain ⟨k, ys, hk, rfl, hys, hJk, hKk⟩ := hrel
    by_cases hlt : k < l0.length
    · have HNX := Lib.hid (numF_next l0 k hlt)
      have HLE := Lib.hid (numF_le l0 (k + 1))
      have HSZ := Lib.hid (show SizeOf.sizeOf l0[k].f0 ≤ n by have := szf_mem (List.getElem_mem hlt); have := szf_field l0[k]; omega)
      have hwk : IntKind.i64.wrap ((k : Int) + 1) = (k : Int) + 1 := by rw [IntKind.wrap_i64]; omega
      have hBk := hB.trans hKk.below
      obtain ⟨ad, P, q, e0, hx0, ml, mc⟩ := at_T70 hr (k : Int) (by omega) (by omega)
      cases e0
      have ex : rd_T70 l0 (k : Int) = l0[k] := by unfold rd_T70; simp [List.getD, hlt]
      simp only [Int.toNat_natCast, ex] at hx0 ml mc
      have hxk := (hBk.cell (World.block_lt_of_cell? w0 _ hx0)).trans hx0
      generalize l0[k] = x at *
      have hmx := Kd.C_max mc
      clear hx0 ex
      gi_wp2
      gi_loopw [18] (fun v wr => ∃ (j : Nat) (zs : List Value), j ≤ x.f0.length ∧ v = .int .i64 j ∧ zs.length = numF (l0.take k) + numV (x.f0.take j) ∧ J (pre ++ zs) wr ∧ KeepN w0.heap.size NB W wr) (fun v _ => x.f0.length - (intOf v).toNat)
      case atStart => exact ⟨0, ys, Nat.zero_le _, rfl, by rw [hys]; simp [numV], hJa _ _ _ hJk, hKk.alloc (hB.size) _⟩
      case round =>
        obtain ⟨j, zs, hj, rfl, hzs, hJj, hKj⟩ := hrel
        by_cases hjl : j < x.f0.length
        · have HVX := Lib.hid (numV_next x.f0 j hjl)
          have HVE := Lib.hid (numV_le x.f0 (j + 1))
          have HS2 := Lib.hid (show SizeOf.sizeOf x.f0[j].f1 ≤ n by have := szf_mem (List.getElem_mem hjl); have := szf_value x.f0[j]; have := HSZ.out; omega)
          have hwj : IntKind.i64.wrap ((j : Int) + 1) = (j : Int) + 1 := by rw [IntKind.wrap_i64]; omega
          have hBj := hB.trans hKj.below
          obtain ⟨ad2, P2, q2, e2, hy0, hy1, hy2, hy3, ml2, mc2⟩ := at_T74 mc (j : Int) (by omega) (by omega)
          cases e2
          have ev : rd_T74 x.f0 (j : Int) = x.f0[j] := by unfold rd_T74; simp [List.getD, hjl]
          simp only [Int.toNat_natCast, ev] at hy0 hy1 hy2 hy3 ml2 mc2
          replace hy0 := (hBj.cell (World.block_lt_of_cell? w0 _ hy0)).trans hy0
          replace hy1 := (hBj.cell (World.block_lt_of_cell? w0 _ hy1)).trans hy1
          replace hy2 := (hBj.cell (World.block_lt_of_cell? w0 _ hy2)).trans hy2
          replace hy3 := (hBj.cell (World.block_lt_of_cell? w0 _ hy3)).trans hy3
          clear ev
          generalize x.f0[j] = v at *
          have hbj := hbx.next hKj hb1 hb2
          have hyb : ∀ o, (wr.alloc o).cell? ⟨b1, 0, none⟩ = some (.func (.yield l) #[] #[]) := fun o => blk_cell (blk_alloc hbj.y o) 0
          have HN2 := Lib.hid hN
          have hroom : pre.length + zs.length + (1 + numF v.f1) ≤ N := by
            have h1 := HVX.out
            have h2 := HVE.out
            have h3 := HNX.out
            have h4 := HLE.out
            omega
          have HROOM := Lib.hid hroom
          have hKw := (KeepN.refl w0.heap.size NB wr).alloc (Nat.le_trans hB.size hKj.size) (.cells #[.int .i64 v.f0.f0, .int .i64 v.f0.f1, .string v.f0.f2, .slice P2 v.f1.length q2] 74)
          obtain ⟨fn, tmps, assign, body, hy, hR1⟩ := hY (m - 1) (pre ++ zs) (.agg #[.int .i64 v.f0.f0, .int .i64 v.f0.f1, .string v.f0.f2, .slice P2 v.f1.length q2]) (wr.alloc (.cells #[.int .i64 v.f0.f0, .int .i64 v.f0.f1, .string v.f0.f2, .slice P2 v.f1.length q2] 74)) (hJa _ _ _ hJj) (by rw [List.length_append]; omega)
          have hnb : wr.heap.size ≠ NB := by have := hKj.size; omega
          have KWB := Lib.hid (blk_new wr (.cells #[.int .i64 v.f0.f0, .int .i64 v.f0.f1, .string v.f0.f2, .slice P2 v.f1.length q2] 74))
          have HZS := Lib.hid hzs
          clear hroom hzs hN hys
          gi_wp2
          refine ⟨fun h => (nomatch h), hR1.mono ?_⟩
          rintro e W3 (⟨rfl, hJ3, hk3⟩ | ⟨rfl, hJx3⟩)
          · have hk03 := hKj.trans (hKw.trans hk3)
            have hb3 := hbx.next hk03 hb1 hb2
            have hc2 : W3.cell? ⟨b2, 0, none⟩ = some (.func (.func 68) #[] #[.pointer (some ⟨b1, 0, none⟩), .pointer (some ⟨b2, 0, none⟩)]) := blk_cell hb3.f 0
            have hc8 : W3.cell? ⟨wr.heap.size, 3, none⟩ = some (.slice P2 v.f1.length q2) := blk_cell (hk3.cells _ _ KWB.out rfl hnb) 3
            have hNB3 : NB < W3.heap.size := Nat.lt_of_lt_of_le hNB hk03.size
            gi_wp2
            refine ⟨trivial, ?_⟩
            refine ⟨fun h => (nomatch h), (ih v.f1 HS2.out w0 NB l b1 b2 N J Jx P2 q2 _ (pre ++ zs ++ [.agg #[.int .i64 v.f0.f0, .int .i64 v.f0.f1, .string v.f0.f2, .slice P2 v.f1.length q2]]) W3 mc2 (hB.trans hk03.below) hb3 hb1 hb2 hNB3 hJa hY hJ3 (by have := HROOM.out; simp only [List.length_append, List.length_singleton]; omega)).mono ?_⟩
            rintro e W4 (⟨rfl, us, hus, hJ4, hk4⟩ | ⟨rfl, us, hus, hJx4⟩)
            · gi_wp2
              go_roundw
              case rel => exact ⟨j + 1, zs ++ [.agg #[.int .i64 v.f0.f0, .int .i64 v.f0.f1, .string v.f0.f2, .slice P2 v.f1.length q2]] ++ us, by omega, by go_num, by simp only [List.length_append, List.length_singleton, hus, HZS.out, HVX.out]; omega, by simpa [List.append_assoc] using hJ4, hk03.trans hk4⟩
              case measure => simp [intOf]; omega
            · gi_wp2
              go_ret
              exact .inr ⟨rfl, zs ++ [.agg #[.int .i64 v.f0.f0, .int .i64 v.f0.f1, .string v.f0.f2, .slice P2 v.f1.length q2]] ++ us, by have h1 := HVX.out; have h2 := HVE.out; have h3 := HNX.out; have h4 := HLE.out; have h5 := HZS.out; simp only [List.length_append, List.length_singleton]; omega, by simpa [List.append_assoc] using hJx4⟩
          · gi_wp2
            refine ⟨fun _ _ => trivial, ?_⟩
            gi_wp2
            go_ret
            exact .inr ⟨rfl, zs ++ [.agg #[.int .i64 v.f0.f0, .int .i64 v.f0.f1, .string v.f0.f2, .slice P2 v.f1.length q2]], by have h1 := HVX.out; have h2 := HVE.out; have h3 := HNX.out; have h4 := HLE.out; have h5 := HZS.out; simp only [List.length_append, List.length_singleton]; omega, by simpa [List.append_assoc] using hJx3⟩
        · have hje : j = x.f0.length := by omega
          have HZ := Lib.hid (show zs.length = numF (l0.take (k + 1)) by rw [HNX.out, hzs, hje, List.take_length])
          clear hje hzs
          gi_wp2
          go_roundw
          case rel => exact ⟨k + 1, zs, by omega, by go_num, HZ.out, hJj, hKj⟩
          case measure => simp [intOf]; omega
    · have hke : k = l0.length := by omega
      have HZ := Lib.hid (show ys.length = numF l0 by rw [hys, hke, List.take_length])
      clear hke hys
      gi_wp2
      go_ret
      exact .inl ⟨rfl, ys, HZ.out, hJk, hKk⟩
theorem walk_all : ∀ n, WalkAt n
  | 0 => fun l0 hn => by
    exfalso
    cases l0 <;> simp at hn
  | n + 1 => walk_step (walk_all n)
theorem fields1_in (m l Bn NB : Nat) (w0 : World) (A : Option Addr) (c : Nat) (l0 : List S70) (hR : Kd.C k70 w0 A l0.length l0) (J Jx : List Value → World → Prop)
    (W : World) (hJa : ∀ pre W o, J pre W → J pre (W.alloc o))
    (hY : ∀ pre x W, J pre W → pre.length < numF l0 → YieldAt Fence.wide (m - 1) Tryd.prog l #[x] W fun e W' =>
      (e = .returned (.bool true) ∧ J (pre ++ [x]) W' ∧ KeepN w0.heap.size NB W W') ∨ (e = .returned (.bool false) ∧ Jx (pre ++ [x]) W'))
    (hW : Below w0.heap.size w0 W) (hBn : W.cell? ⟨Bn, 0, none⟩ = some (.slice A l0.length c)) (hNB : NB < W.heap.size) (h0 : J [] W) :
    CallsIn Fence.wide m Tryd.prog 67 #[.func (.yield l) #[] #[], .pointer (some ⟨Bn, 0, none⟩)] W fun e W' => (∃ v, e = .returned v) ∧
      ((∃ ys : List Value, ys.length = numF l0 ∧ J ys W') ∨ (∃ pre : List Value, pre.length ≤ numF l0 ∧ Jx pre W')) := by
  have hz1 : ((W.alloc (.cells #[.func (.yield l) #[] #[]] 114)).alloc (.cells #[Value.nilFunc] 115)).cell? ⟨W.heap.size + 1, 0, none⟩ = some Value.nilFunc := World.cell?_alloc2_new _ _ _ _
  have hz2 : ((W.alloc (.cells #[.func (.yield l) #[] #[]] 114)).alloc (.cells #[Value.nilFunc] 115)).frozen? ⟨W.heap.size + 1, 0, none⟩ = false := World.frozen?_alloc2_new _ _ _ _
  have hz3 : ((W.alloc (.cells #[.func (.yield l) #[] #[]] 114)).alloc (.cells #[Value.nilFunc] 115)).setCell ⟨W.heap.size + 1, 0, none⟩ (.func (.func 68) #[] #[.pointer (some ⟨W.heap.size, 0, none⟩), .pointer (some ⟨W.heap.size + 1, 0, none⟩)]) = ((W.alloc (.cells #[.func (.yield l) #[] #[]] 114)).alloc (.cells #[(.func (.func 68) #[] #[.pointer (some ⟨W.heap.size, 0, none⟩), .pointer (some ⟨W.heap.size + 1, 0, none⟩)])] 115)) := by
    have := World.setCell_alloc_at (w := W.alloc (.cells #[.func (.yield l) #[] #[]] 114)) #[Value.nilFunc] 115 (W.heap.size + 1) 0 (.func (.func 68) #[] #[.pointer (some ⟨W.heap.size, 0, none⟩), .pointer (some ⟨W.heap.size + 1, 0, none⟩)]) (by rw [World.size_alloc])
    simpa using this
  have hz4 : ((W.alloc (.cells #[.func (.yield l) #[] #[]] 114)).alloc (.cells #[(.func (.func 68) #[] #[.pointer (some ⟨W.heap.size, 0, none⟩), .pointer (some ⟨W.heap.size + 1, 0, none⟩)])] 115)).cell? ⟨W.heap.size + 1, 0, none⟩ = some (.func (.func 68) #[] #[.pointer (some ⟨W.heap.size, 0, none⟩), .pointer (some ⟨W.heap.size + 1, 0, none⟩)]) := World.cell?_alloc2_new _ _ _ _
  have hz5 : ((W.alloc (.cells #[.func (.yield l) #[] #[]] 114)).alloc (.cells #[(.func (.func 68) #[] #[.pointer (some ⟨W.heap.size, 0, none⟩), .pointer (some ⟨W.heap.size + 1, 0, none⟩)])] 115)).cell? ⟨Bn, 0, none⟩ = some (.slice A l0.length c) := (((Below.refl W.heap.size W).alloc (Nat.le_refl _) _).alloc (by simp) _).cell (World.block_lt_of_cell? W _ hBn) |>.trans hBn
  have hp := walk_all (SizeOf.sizeOf l0) l0 (Nat.le_refl _) w0 NB l W.heap.size (W.heap.size + 1) (numF l0) J Jx A c (m - 1) []
    ((W.alloc (.cells #[.func (.yield l) #[] #[]] 114)).alloc (.cells #[.func (.func 68) #[] #[.pointer (some ⟨W.heap.size, 0, none⟩), .pointer (some ⟨W.heap.size + 1, 0, none⟩)]] 115))
    hR ((hW.alloc hW.size _).alloc (by rw [World.size_alloc]; have := hW.size; omega) _)
    ⟨blk_alloc (blk_new W _) _, by have := blk_new (W.alloc (.cells #[.func (.yield l) #[] #[]] 114)) (.cells #[.func (.func 68) #[] #[.pointer (some ⟨W.heap.size, 0, none⟩), .pointer (some ⟨W.heap.size + 1, 0, none⟩)]] 115); rwa [World.size_alloc] at this⟩
    (by omega) (by omega) (by rw [World.size_alloc, World.size_alloc]; omega) hJa (fun m' pre x W1 hj hl => YieldAt.anyD_ rfl m' (hY pre x W1 hj hl)) (hJa _ _ _ (hJa _ _ _ h0)) (by simp)
  refine callsIn_of_wp Tryd.func67 rfl trivial ?_ rfl
  simp only [Tryd.ntmps67, List.size_toArray, List.length_cons, List.length_nil, Nat.reduceAdd, Nat.reduceSub, Array.replicate_succ, Array.replicate_zero, List.push_toArray, List.append_toArray, List.nil_append, List.cons_append]
  generalize ((W.alloc (.cells #[.func (.yield l) #[] #[]] 114)).alloc (.cells #[(.func (.func 68) #[] #[.pointer (some ⟨W.heap.size, 0, none⟩), .pointer (some ⟨W.heap.size + 1, 0, none⟩)])] 115)) = W2 at hp hz3 hz4 hz5
  gi_wp2
  generalize ((W.alloc (.cells #[.func (.yield l) #[] #[]] 114)).alloc (.cells #[Value.nilFunc] 115)) = W1 at hz1 hz2 hz3 ⊢
  gi_wp2
  refine ⟨trivial, fun h => (nomatch h), hp.mono ?_⟩
  rintro e W3 (⟨rfl, ys, hys, hJ3, -⟩ | ⟨rfl, q, hq, hx3⟩)
  · gi_wp2
    go_end0
    exact ⟨⟨_, rfl⟩, .inl ⟨ys, hys, by simpa using hJ3⟩⟩
  · gi_wp2
    go_end0
    exact ⟨⟨_, rfl⟩, .inr ⟨q, hq, by simpa using hx3⟩⟩
theorem fields_in (n : Nat) (A : Option Addr) (k c : Nat) (w : World) :
    CallsIn Fence.wide n Tryd.prog 42 #[.slice A k c] w fun e w' => e = .returned (.func (.func 67) #[] #[.pointer (some ⟨w.heap.size, 0, none⟩)]) ∧ w' = w.alloc (.cells #[.slice A k c] 40) := by
  refine callsIn_of_wp Tryd.func42 rfl trivial ?_ rfl
  simp only [Tryd.ntmps42, List.size_toArray, List.length_cons, List.length_nil, Nat.reduceAdd, Nat.reduceSub, Array.replicate_succ, Array.replicate_zero, List.push_toArray, List.append_toArray, List.nil_append, List.cons_append]
  gi_wp2
  go_ret
  exact ⟨rfl, rfl⟩
theorem fields_stops (n Bn NB : Nat) (w0 : World) (A : Option Addr) (c : Nat) (l0 : List S70) (hR : Kd.C k70 w0 A l0.length l0) (w : World) (hB : Below w0.heap.size w0 w) (hBn : Bn < w.heap.size) (hNB : NB < w.heap.size)
    (hc : w.cell? ⟨Bn, 0, none⟩ = some (.slice A l0.length c)) :
    SeqStopsK Fence.wide n Tryd.prog 67 #[.pointer (some ⟨Bn, 0, none⟩)] (fun x : Value => #[x]) (KeepN w0.heap.size NB) (fun ys => ys.length = numF l0) (fun pre => pre.length ≤ numF l0) (numF l0) w := fun l J Jx W hW hJ _ hY h0 =>
  fields1_in n l Bn NB w0 A c l0 hR J Jx W (fun pre X o hj => hJ pre X _ none hj (World.grownBy_alloc X o none) (fun r e => by cases e)) hY (hB.trans (hW.mono hB.size)) ((hW.cell (p := ⟨Bn, 0, none⟩) hBn).trans hc) (Nat.lt_of_lt_of_le hNB hW.size) h0


end Go.Proofs.YtnbmgljcnbhinaaDoor.H
end
