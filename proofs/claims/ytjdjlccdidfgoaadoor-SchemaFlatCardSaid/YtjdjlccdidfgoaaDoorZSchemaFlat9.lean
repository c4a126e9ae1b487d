/- Texts of the claim, packed: H10. -/
import Derived.Laws.EntriesVeiled
import Derived.Laws.NewBlocks
import Derived.Lib.Hide
import Derived.Maps.Own
import Derived.Maps.OwnOps
import Derived.Maps.Views
import Derived.RangeFuncBox
import Derived.Test.YtjdjlccdidfgoaaDoorZSchemaFlat6
import Derived.Test.YtjdjlccdidfgoaaDoorZSchemaFlat8
section
-- Laid by this session's hprint.py, out of the kit's print.py and texts of the session. Not trusted: Lean checks it.
namespace Go.Proofs.YtjdjlccdidfgoaaDoor.H
open Go.RowKit Go.Proofs.YtjdjlccdidfgoaaDoorW.PrintWords Go.Proofs.YtjdjlccdidfgoaaDoorW.PrintLast Go.Proofs.YtjdjlccdidfgoaaDoorW.PrintMore
attribute [local go_sem] max2_int min2_int max_two min_two max_three min_three max_four min_four   -- for this text's walks alone
set_option linter.unusedVariables false
set_option linter.unusedSimpArgs false

-- OVPART Derived.Lib.Hide Derived.Maps.Own Derived.Maps.OwnOps Derived.Laws.NewBlocks Derived.Laws.EntriesVeiled Derived.RangeFuncBox Derived.Maps.Views
/-! ### schema_Check: function 9 -/
def nameB (s : ByteArray) : Bool := decide (1 ≤ s.size) && (decide (s.size ≤ 64) && Go.Lib.validD s.data.toList)
def okN (x : S62) : Bool := nameB x.f0 && (decide (0 ≤ x.f1) && (decide (x.f1 ≤ 2) && (schema_kind.f x.f0 x.f1 x.f2 x.f3 x.f4 x.f5 == some true)))
/-- The nodes are gone over: 'left' may still come, 'seen' are the names of the row. -/
def fineN : List S62 → Int → Int → List (List UInt8) → Bool × Int
  | [], _, left, _ => (true, left)
  | ⟨a, b, c, d, e, k⟩ :: xs, deep, left, seen =>
    if left - 1 < 0 ∨ deep > 32 ∨ a.data.toList ∈ seen ∨ okN ⟨a, b, c, d, e, k⟩ = false then (false, left - 1)
    else if (fineN k (deep + 1) (left - 1) []).1 = false then (false, (fineN k (deep + 1) (left - 1) []).2)
    else fineN xs deep (fineN k (deep + 1) (left - 1) []).2 (a.data.toList :: seen)
theorem fineN_cons (x : S62) (xs : List S62) (deep left : Int) (seen : List (List UInt8)) : fineN (x :: xs) deep left seen =
    if left - 1 < 0 ∨ deep > 32 ∨ x.f0.data.toList ∈ seen ∨ okN x = false then (false, left - 1)
    else if (fineN x.f5 (deep + 1) (left - 1) []).1 = false then (false, (fineN x.f5 (deep + 1) (left - 1) []).2)
    else fineN xs deep (fineN x.f5 (deep + 1) (left - 1) []).2 (x.f0.data.toList :: seen) := by
  cases x
  rw [fineN]
def smallN : List S62 → Bool
  | [] => true
  | ⟨a, _, _, _, _, k⟩ :: xs => decide (a.size ≤ 140737488351232) && (smallN k && smallN xs)
theorem smallN_cons (x : S62) (xs : List S62) : smallN (x :: xs) = (decide (x.f0.size ≤ 140737488351232) && (smallN x.f5 && smallN xs)) := by
  cases x
  rw [smallN]
theorem smallN_mem : ∀ {l : List S62}, smallN l = true → ∀ x ∈ l, x.f0.size ≤ 140737488351232 ∧ smallN x.f5 = true
  | [], _, x, h => by cases h
  | y :: l, hs, x, h => by
    rw [smallN_cons] at hs
    simp only [Bool.and_eq_true, decide_eq_true_eq] at hs
    rcases List.mem_cons.mp h with rfl | h
    · exact ⟨hs.1, hs.2.1⟩
    · exact smallN_mem hs.2.2 x h
theorem szn_mem' {x : S62} {l : List S62} (h : x ∈ l) : SizeOf.sizeOf x < SizeOf.sizeOf l := List.sizeOf_lt_of_mem h
theorem szn_node' (x : S62) : SizeOf.sizeOf x.f5 < SizeOf.sizeOf x := by
  cases x
  simp
  omega
theorem named_is (s : ByteArray) : schema_named.f s = some (nameB s) := by
  unfold schema_named.f nameB utf8_ValidString.f
  by_cases h1 : 1 ≤ s.size
  · rw [if_pos (show (s.size : Int) ≥ 1 by omega), decide_eq_true h1]
    by_cases h2 : s.size ≤ 64
    · rw [if_pos (show (s.size : Int) ≤ 64 by omega), if_pos (by omega), decide_eq_true h2]
      simp
    · rw [if_neg (show ¬ (s.size : Int) ≤ 64 by omega), decide_eq_false h2]
      simp
  · rw [if_neg (show ¬ (s.size : Int) ≥ 1 by omega), decide_eq_false h1]
    simp
theorem kind_all (a : ByteArray) (b : Int) (c : Bool) (d e : Int) (k : List S62) : ∃ r, schema_kind.f a b c d e k = some r := by
  unfold schema_kind.f datum_Check.f
  repeat' split
  all_goals exact ⟨_, rfl⟩
/-- A look-up that has a guard which holds. -/
theorem look_g {H : Type} {P : Program} (w : World) {ops : Array Oper} {rest : List Oper} {o : Oper} {a : Act} {Q : Exit → Act → World → Prop}
    (hw : Region.wanted o (yielded ops a.tmps) = true) (m x : Operand) (t : TypeId) (hop : o.op = Op.lookup t m x false)
    (k e : TypeId) (q : IntKind) (K : Go.Maps.Keyed P k) (ht : P.underlying t = some (.map k e)) (he : P.underlying e = some (.int q)) (hz : (zeroValue e).run P w = .ok (.int q 0) w) (b n : Nat) (D : DataW H)
    (hm : a.eval m = .map (some b)) (hown : w.ownsMap P k (plainElem P e) b n D) (key : Value) (kl : Lit) (hx : a.eval x = key) (hkey : keyOf P k key = some kl)
    (hK : ∀ c : Int, D.atKey kl (.lit (.int q 0)) = .lit (.int q c) → (Lit.int q c).wf = true → wpList P ops Q rest (a.put o.dst (.int q c)) w) :
    wpList P ops Q (o :: rest) a w := by
  refine wpList_step fun K' hK' => ?_
  rw [if_pos hw]
  obtain ⟨c, hrun, hat, hwc⟩ := hown.lookup_int K ht he hz hkey
  unfold Oper.wp
  simp [execOp, hop, hm, hx, hrun, Result.andThen]
  exact hK' _ _ (hK c hat hwc)
theorem gb_trans {A B C : World} {r : Option Nat} (h : A.grownBy B r) (k : B.grownBy C r) : A.grownBy C r := ⟨k.os.trans h.os, k.tape.trans h.tape, k.output.trans h.output, Nat.le_trans h.size k.size, fun i hi hn => (k.block i (Nat.lt_of_lt_of_le hi h.size) hn).trans (h.block i hi hn)⟩
theorem gb_refl (A : World) (r : Option Nat) : A.grownBy A r := ⟨rfl, rfl, rfl, Nat.le_refl _, fun _ _ _ => rfl⟩
theorem gb_new {A B C : World} {r : Option Nat} {b : Nat} (h : A.grownBy B r) (k : B.grownBy C (some b)) (hb : A.heap.size ≤ b) : A.grownBy C r := ⟨k.os.trans h.os, k.tape.trans h.tape, k.output.trans h.output, Nat.le_trans h.size k.size, fun i hi hn => (k.block i (Nat.lt_of_lt_of_le hi h.size) (fun e => by cases e; omega)).trans (h.block i hi hn)⟩
theorem gb_of {A B : World} (r : Option Nat) (h : Below A.heap.size A B) : A.grownBy B r := ⟨h.os, h.tape, h.output, h.size, fun i hi _ => h.block i hi⟩
theorem gb_low {n : Nat} {A B : World} {b : Nat} (h : A.grownBy B (some b)) (hn : n ≤ A.heap.size) (hb : n ≤ b) : Below n A B := ⟨h.os, h.tape, h.output, h.size, fun i hi => h.block i (by omega) (fun e => by cases e; omega)⟩
theorem gb_blk {A B : World} {b g : Nat} {o : Obj} (h : A.grownBy B (some b)) (hg : A.heap[g]? = some o) (hne : g ≠ b) : B.heap[g]? = some o := (h.block g (Array.getElem?_eq_some_iff.1 hg).1 (fun e => by cases e; exact hne rfl)).trans hg
/-- The names that have been seen are the map's keys. -/
def Seen_ (D : DataW Unit) (seen : List (List UInt8)) : Prop := Go.Maps.IsMap D ∧ ∀ s : List UInt8, D.atKey (.string s) (.lit (.int .i64 0)) = .lit (.int .i64 (if s ∈ seen then 1 else 0))
theorem Seen_.nil : Seen_ (.map []) [] := ⟨⟨[], rfl⟩, fun s => rfl⟩
theorem Seen_.put {D : DataW Unit} {seen : List (List UInt8)} (h : Seen_ D seen) (s : List UInt8) : Seen_ (D.put (.string s) (.lit (.int .i64 1))) (s :: seen) := by
  refine ⟨?_, fun t => ?_⟩
  · obtain ⟨es, rfl⟩ := h.1
    exact ⟨_, rfl⟩
  · by_cases e : t = s
    · subst e
      rw [Go.Maps.atKey_put_same (k := .string t) h.1 trivial, if_pos (List.mem_cons_self)]
    · rw [Go.Maps.atKey_put_other (fun h => e (Lit.string.inj h)), h.2 t]
      simp [e]
theorem lit_i {a b : Int} (h : (DataW.lit (H := Unit) (.int .i64 a)) = .lit (.int .i64 b)) : b = a := by
  injection h with h
  injection h with _ h
  exact h.symm
theorem zero_int (w : World) : (zeroValue 3).run Tryd.prog w = .ok (.int .i64 0) w := by kernel_rfl
abbrev ndV (x : S62) (P : Option Addr) (q : Nat) : Array Value := #[.string x.f0, .int .i64 x.f1, .bool x.f2, .int .i64 x.f3, .int .i64 x.f4, .slice P x.f5.length q]
abbrev fnV (NB b3 : Nat) : Value := .func (.func 25) #[] #[.pointer (some ⟨NB, 0, none⟩), .pointer (some ⟨b3, 0, none⟩)]
/-- Where a round stands behind the map's store. -/
structure Nd_ (W0 W : World) (NB b3 nb bm k : Nat) (cs : Array Value) (lf : Int) (D : DataW Unit) : Prop where
  g : W0.grownBy W (some NB)
  node : W.heap[nb]? = some (.cells cs 62 (0, 0))
  box : Boxed W NB 3 (.int .i64 lf)
  fb : Boxed W b3 63 (fnV NB b3)
  own : W.ownsMap Tryd.prog 9 (plainElem Tryd.prog 3) bm k D
theorem Nd_.next {W0 W W' : World} {NB b3 nb bm k : Nat} {cs : Array Value} {lf : Int} {D : DataW Unit} (h : Nd_ W0 W NB b3 nb bm k cs lf D) (hb : Below W.heap.size W W') : Nd_ W0 W' NB b3 nb bm k cs lf D :=
  ⟨gb_trans h.g (gb_of _ hb), blk_below h.node hb, h.box.kept (gb_of none hb) (by simp), h.fb.kept (gb_of none hb) (by simp), h.own.kept (gb_of none hb) (by simp)⟩
theorem Nd_.cells {W0 W : World} {NB b3 nb bm k : Nat} {x : S62} {P : Option Addr} {q : Nat} {lf : Int} {D : DataW Unit} (h : Nd_ W0 W NB b3 nb bm k (ndV x P q) lf D) :
    W.cell? ⟨nb, 0, none⟩ = some (.string x.f0) ∧ W.cell? ⟨nb, 1, none⟩ = some (.int .i64 x.f1) ∧ W.cell? ⟨nb, 2, none⟩ = some (.bool x.f2) ∧ W.cell? ⟨nb, 3, none⟩ = some (.int .i64 x.f3) ∧ W.cell? ⟨nb, 4, none⟩ = some (.int .i64 x.f4) ∧ W.cell? ⟨nb, 5, none⟩ = some (.slice P x.f5.length q) :=
  ⟨blk_cell h.node 0, blk_cell h.node 1, blk_cell h.node 2, blk_cell h.node 3, blk_cell h.node 4, blk_cell h.node 5⟩
/-- What the walk over nodes does at lists that are no greater. -/
def FineAt (n : Nat) : Prop := ∀ (l0 : List S62), SizeOf.sizeOf l0 ≤ n → smallN l0 = true → ∀ (w0 : World) (NB b3 : Nat) (A : Option Addr) (c : Nat) (deep left : Int) (W : World),
  Kd.C k62 w0 A l0.length l0 → Tabs_ w0 → Below w0.heap.size w0 W → w0.heap.size ≤ NB → b3 ≠ NB → Boxed W NB 3 (.int .i64 left) → Boxed W b3 63 (fnV NB b3) →
  0 ≤ left → left ≤ 256 → 1 ≤ deep → deep ≤ 33 →
  Calls Tryd.prog 25 #[.slice A l0.length c, .int .i64 deep, .pointer (some ⟨NB, 0, none⟩), .pointer (some ⟨b3, 0, none⟩)] W fun e W' => e = .returned (.bool (fineN l0 deep left []).1) ∧ W.grownBy W' (some NB) ∧
    ((fineN l0 deep left []).1 = true → Boxed W' NB 3 (.int .i64 (fineN l0 deep left []).2) ∧ 0 ≤ (fineN l0 deep left []).2 ∧ (fineN l0 deep left []).2 ≤ 256)
set_option maxHeartbeats 8000000 in
set_option maxRecDepth 100000 in
theorem fine_step {n : Nat} (ih : FineAt n) : FineAt (n + 1) := by
  intro l0 hn hsm w0 NB b3 A c deep left W hr hT hB hNB hne hbx hb3 hl0 hl1 hd0 hd1
  have hmax := Kd.C_max hr
  have hmk := run_makeMap (P := Tryd.prog) 64 W
  have hown0 := World.ownsMap_made W Tryd.prog 9 (plainElem (H := Unit) Tryd.prog 3)
  have hg0 := World.grownBy_alloc W (.map #[] 0) (some NB)
  have hbx0 := hbx.alloc (.map #[] 0)
  have hWs := hB.size
  have hNBW := hbx.lt
  have hb3W := hb3.lt
  generalize W.alloc (.map #[] 0) = w1 at hmk hown0 hg0 hbx0
  have HSM := Lib.hid (smallN_mem hsm)
  clear hsm
  go_enter Tryd.func25, Tryd.ntmps25
  go_wp2_with fail
  go_loopw [13] (fun v wr => ∃ (k : Nat) (lf : Int) (D : DataW Unit) (seen : List (List UInt8)), k ≤ l0.length ∧ v = .int .i64 k ∧ fineN (l0.drop k) deep lf seen = fineN l0 deep left [] ∧ 0 ≤ lf ∧ lf ≤ 256 ∧ W.grownBy wr (some NB) ∧ Boxed wr NB 3 (.int .i64 lf) ∧ wr.ownsMap Tryd.prog 9 (plainElem Tryd.prog 3) W.heap.size k D ∧ Seen_ D seen) (fun v _ => l0.length - (intOf v).toNat)
  case atStart => exact ⟨0, left, _, [], Nat.zero_le _, rfl, rfl, hl0, hl1, hg0, hbx0, hown0, Seen_.nil⟩
  case round =>
    obtain ⟨k, lf, D, seen, hk, rfl, hfe, hf0, hf1, hG, hbl, hown, hse⟩ := hrel
    by_cases hlt : k < l0.length
    · rw [List.drop_eq_getElem_cons hlt, fineN_cons] at hfe
      have HSZ := Lib.hid (show SizeOf.sizeOf l0[k].f5 ≤ n by have := szn_mem' (List.getElem_mem hlt); have := szn_node' l0[k]; omega)
      have HSX := Lib.hid (HSM.out _ (List.getElem_mem hlt))
      have hwk : IntKind.i64.wrap ((k : Int) + 1) = (k : Int) + 1 := by rw [IntKind.wrap_i64]; omega
      have hwl : IntKind.i64.wrap (lf - 1) = lf - 1 := by rw [IntKind.wrap_i64]; omega
      have hwd : IntKind.i64.wrap (deep + 1) = deep + 1 := by rw [IntKind.wrap_i64]; omega
      have hBr : Below w0.heap.size w0 wr := hB.trans (gb_low hG hWs hNB)
      obtain ⟨ad, P, q, e0, hx0, hx1, hx2, hx3, hx4, hx5, ml, mc⟩ := at_T62 hr (k : Int) (by omega) (by omega)
      cases e0
      have ex : rd_T62 l0 (k : Int) = l0[k] := by unfold rd_T62; simp [List.getD, hlt]
      simp only [Int.toNat_natCast, ex] at hx0 hx1 hx2 hx3 hx4 hx5 ml mc
      replace hx0 := (hBr.cell (World.block_lt_of_cell? w0 _ hx0)).trans hx0
      replace hx1 := (hBr.cell (World.block_lt_of_cell? w0 _ hx1)).trans hx1
      replace hx2 := (hBr.cell (World.block_lt_of_cell? w0 _ hx2)).trans hx2
      replace hx3 := (hBr.cell (World.block_lt_of_cell? w0 _ hx3)).trans hx3
      replace hx4 := (hBr.cell (World.block_lt_of_cell? w0 _ hx4)).trans hx4
      replace hx5 := (hBr.cell (World.block_lt_of_cell? w0 _ hx5)).trans hx5
      clear ex
      generalize l0[k] = x at *
      have HKEY := Lib.hid (Go.WideMaps.keyOf_string_mk (P := Tryd.prog) Tryd.underlying9 (s := x.f0) (by have := HSX.out.1; unfold maxLen; omega))
      -- the node's own block, the box written
      have hbn := hbl.alloc (.cells (ndV x P q) 62)
      have hc1 := hbn.cell
      have hf1_ := hbn.frozen
      have hnd := blk_new wr (.cells (ndV x P q) 62)
      have hbs := hbn.set (.int .i64 (lf - 1))
      have hgs := grownBy_setCell' (wr.alloc (.cells (ndV x P q) 62)) NB (.int .i64 (lf - 1))
      have hns := gb_blk hgs hnd (by have := hbl.lt; omega)
      have hownS := (hown.alloc (.cells (ndV x P q) 62)).kept hgs (by intro e; cases e; omega)
      have hGs : W.grownBy _ (some NB) := gb_trans (gb_trans hG (World.grownBy_alloc wr (.cells (ndV x P q) 62) (some NB))) hgs
      have hfbs := hb3.kept hGs (by intro e; cases e; exact hne rfl)
      have hs0 := blk_cell hns 0
      have hnbW : W.heap.size ≤ wr.heap.size := hG.size
      have hnm := hown.lt
      have hGr : W.heap.size ≤ wr.heap.size := hG.size
      generalize hWS : (wr.alloc (.cells (ndV x P q) 62)).setCell ⟨NB, 0, none⟩ (.int .i64 (lf - 1)) = wS at hbs hgs hns hownS hGs hfbs hs0
      have HN : Hid (∀ w4 (cE : Int), w4.ownsMap Tryd.prog 9 (plainElem Tryd.prog 3) W.heap.size (k + 1) (D.put (.string x.f0.data.toList) (.lit (.int .i64 cE))) → wS.grownBy w4 (some W.heap.size) → Nd_ W w4 NB b3 wr.heap.size W.heap.size (k + 1) (ndV x P q) (lf - 1) (D.put (.string x.f0.data.toList) (.lit (.int .i64 cE)))) :=
        Lib.hid (fun w4 cE h4 g4 => ⟨gb_new hGs g4 (Nat.le_refl _), gb_blk g4 hns (Nat.ne_of_gt hnm), hbs.kept g4 (by intro e; cases e; omega), hfbs.kept g4 (by intro e; cases e; omega), h4⟩)
      have HL := Lib.hid (fun w' (hg : W.grownBy w' (some NB)) => hB.trans (gb_low hg hWs hNB))
      have HNE := Lib.hid (show W.heap.size ≠ NB by omega)
      have HFE := Lib.hid hfe
      have HKM := Lib.hid (show k < maxLen by unfold maxLen; omega)
      have HLE := Lib.hid (show k + 1 ≤ l0.length by omega)
      have HB3 := Lib.hid hne
      have HDL := Lib.hid (And.intro hf0 (And.intro hf1 (And.intro hd0 hd1)))
      have HMC := Lib.hid mc
      have HT := Lib.hid hT
      have HSE := Lib.hid hse
      have HML := Lib.hid ml
      have HOWN := Lib.hid hownS
      clear hfe hgs hns hG hbl hown hfbs hbn hnd hbs hB hBr mc hT hr hGs hmk hg0 hbx0 hown0 hse ml hownS hNBW hb3W hne hd0 hd1 hf0 hf1 hmax
      clear hbx hb3 hl0 hl1
      by_cases hm : x.f0.data.toList ∈ seen
      · by_cases h1 : lf - 1 < 0
        · have hb1 : decide (lf - 1 < 0) = true := decide_eq_true h1
          have hbad : lf - 1 < 0 ∨ deep > 32 ∨ x.f0.data.toList ∈ seen ∨ okN x = false := .inl h1
          have HF := HFE.out
          rw [if_pos hbad] at HF
          have HEND := Lib.hid (fun (w' : World) (hg : W.grownBy w' (some NB)) => show Ending.returned (.bool false) = Ending.returned (.bool (fineN l0 deep left []).1) ∧ W.grownBy w' (some NB) ∧ ((fineN l0 deep left []).1 = true → Boxed w' NB 3 (.int .i64 (fineN l0 deep left []).2) ∧ 0 ≤ (fineN l0 deep left []).2 ∧ (fineN l0 deep left []).2 ≤ 256) from ⟨congrArg (fun p : Bool × Int => Ending.returned (.bool p.1)) HF, hg, fun h => by rw [← HF] at h; exact absurd (show false = true from h) (by decide)⟩)
          clear HF hbad
          go_wp2_with (first | (at_mapUpdate; refine wpList_mapUpdate_own (H := Unit) _ rfl _ _ _ 64 rfl 9 3 (Go.Maps.string_keyed Tryd.underlying9) Tryd.underlying64 (plainElem Tryd.prog 3) W.heap.size k D rfl HOWN.out HKM.out _ _ _ rfl rfl HKEY.out (.lit (.int .i64 2)) [] (plainElem_int Tryd.underlying3 (by decide)) ?_; intro w4 hown4 hg4; have HN4 := Lib.hid (HN.out w4 2 hown4 hg4); have hcN := HN4.out.box.cell; have hcF := HN4.out.fb.cell; have hn4 := HN4.out.cells; clear hown4 hg4) | (at_lookup; refine wpList_lookup_own_int (H := Unit) _ rfl _ _ 64 rfl 9 3 .i64 (Go.Maps.string_keyed Tryd.underlying9) Tryd.underlying64 Tryd.underlying3 (zero_int _) W.heap.size _ _ rfl HOWN.out _ _ rfl HKEY.out ?_; intro c hc_ hwc_; have hcs : c = 1 := (lit_i ((HSE.out.2 _).symm.trans hc_)).trans (if_pos hm); subst hcs; clear hc_ hwc_) | (at_lookup; refine look_g (H := Unit) _ (by kernel_rfl) _ _ 64 rfl 9 3 .i64 (Go.Maps.string_keyed Tryd.underlying9) Tryd.underlying64 Tryd.underlying3 (zero_int _) W.heap.size _ _ rfl HN4.out.own _ _ rfl HKEY.out ?_; intro c hc_ hwc_; have hcs : c = 2 := lit_i ((Go.Maps.atKey_put_same (k := .string x.f0.data.toList) HSE.out.1 trivial _ _).symm.trans hc_); subst hcs; clear hc_ hwc_))
          go_ret
          exact HEND.out _ HN4.out.g
        · have hb1 : decide (lf - 1 < 0) = false := decide_eq_false h1
          by_cases h2 : deep > 32
          · have hb2 : decide (32 < deep) = true := decide_eq_true h2
            have hbad : lf - 1 < 0 ∨ deep > 32 ∨ x.f0.data.toList ∈ seen ∨ okN x = false := .inr (.inl h2)
            have HF := HFE.out
            rw [if_pos hbad] at HF
            have HEND := Lib.hid (fun (w' : World) (hg : W.grownBy w' (some NB)) => show Ending.returned (.bool false) = Ending.returned (.bool (fineN l0 deep left []).1) ∧ W.grownBy w' (some NB) ∧ ((fineN l0 deep left []).1 = true → Boxed w' NB 3 (.int .i64 (fineN l0 deep left []).2) ∧ 0 ≤ (fineN l0 deep left []).2 ∧ (fineN l0 deep left []).2 ≤ 256) from ⟨congrArg (fun p : Bool × Int => Ending.returned (.bool p.1)) HF, hg, fun h => by rw [← HF] at h; exact absurd (show false = true from h) (by decide)⟩)
            clear HF hbad
            go_wp2_with (first | (at_mapUpdate; refine wpList_mapUpdate_own (H := Unit) _ rfl _ _ _ 64 rfl 9 3 (Go.Maps.string_keyed Tryd.underlying9) Tryd.underlying64 (plainElem Tryd.prog 3) W.heap.size k D rfl HOWN.out HKM.out _ _ _ rfl rfl HKEY.out (.lit (.int .i64 2)) [] (plainElem_int Tryd.underlying3 (by decide)) ?_; intro w4 hown4 hg4; have HN4 := Lib.hid (HN.out w4 2 hown4 hg4); have hcN := HN4.out.box.cell; have hcF := HN4.out.fb.cell; have hn4 := HN4.out.cells; clear hown4 hg4) | (at_lookup; refine wpList_lookup_own_int (H := Unit) _ rfl _ _ 64 rfl 9 3 .i64 (Go.Maps.string_keyed Tryd.underlying9) Tryd.underlying64 Tryd.underlying3 (zero_int _) W.heap.size _ _ rfl HOWN.out _ _ rfl HKEY.out ?_; intro c hc_ hwc_; have hcs : c = 1 := (lit_i ((HSE.out.2 _).symm.trans hc_)).trans (if_pos hm); subst hcs; clear hc_ hwc_) | (at_lookup; refine look_g (H := Unit) _ (by kernel_rfl) _ _ 64 rfl 9 3 .i64 (Go.Maps.string_keyed Tryd.underlying9) Tryd.underlying64 Tryd.underlying3 (zero_int _) W.heap.size _ _ rfl HN4.out.own _ _ rfl HKEY.out ?_; intro c hc_ hwc_; have hcs : c = 2 := lit_i ((Go.Maps.atKey_put_same (k := .string x.f0.data.toList) HSE.out.1 trivial _ _).symm.trans hc_); subst hcs; clear hc_ hwc_))
            go_ret
            exact HEND.out _ HN4.out.g
          · have hb2 : decide (32 < deep) = false := decide_eq_false h2
            have hbad : lf - 1 < 0 ∨ deep > 32 ∨ x.f0.data.toList ∈ seen ∨ okN x = false := .inr (.inr (.inl hm))
            have HF := HFE.out
            rw [if_pos hbad] at HF
            have HEND := Lib.hid (fun (w' : World) (hg : W.grownBy w' (some NB)) => show Ending.returned (.bool false) = Ending.returned (.bool (fineN l0 deep left []).1) ∧ W.grownBy w' (some NB) ∧ ((fineN l0 deep left []).1 = true → Boxed w' NB 3 (.int .i64 (fineN l0 deep left []).2) ∧ 0 ≤ (fineN l0 deep left []).2 ∧ (fineN l0 deep left []).2 ≤ 256) from ⟨congrArg (fun p : Bool × Int => Ending.returned (.bool p.1)) HF, hg, fun h => by rw [← HF] at h; exact absurd (show false = true from h) (by decide)⟩)
            clear HF hbad
            go_wp2_with (first | (at_mapUpdate; refine wpList_mapUpdate_own (H := Unit) _ rfl _ _ _ 64 rfl 9 3 (Go.Maps.string_keyed Tryd.underlying9) Tryd.underlying64 (plainElem Tryd.prog 3) W.heap.size k D rfl HOWN.out HKM.out _ _ _ rfl rfl HKEY.out (.lit (.int .i64 2)) [] (plainElem_int Tryd.underlying3 (by decide)) ?_; intro w4 hown4 hg4; have HN4 := Lib.hid (HN.out w4 2 hown4 hg4); have hcN := HN4.out.box.cell; have hcF := HN4.out.fb.cell; have hn4 := HN4.out.cells; clear hown4 hg4) | (at_lookup; refine wpList_lookup_own_int (H := Unit) _ rfl _ _ 64 rfl 9 3 .i64 (Go.Maps.string_keyed Tryd.underlying9) Tryd.underlying64 Tryd.underlying3 (zero_int _) W.heap.size _ _ rfl HOWN.out _ _ rfl HKEY.out ?_; intro c hc_ hwc_; have hcs : c = 1 := (lit_i ((HSE.out.2 _).symm.trans hc_)).trans (if_pos hm); subst hcs; clear hc_ hwc_) | (at_lookup; refine look_g (H := Unit) _ (by kernel_rfl) _ _ 64 rfl 9 3 .i64 (Go.Maps.string_keyed Tryd.underlying9) Tryd.underlying64 Tryd.underlying3 (zero_int _) W.heap.size _ _ rfl HN4.out.own _ _ rfl HKEY.out ?_; intro c hc_ hwc_; have hcs : c = 2 := lit_i ((Go.Maps.atKey_put_same (k := .string x.f0.data.toList) HSE.out.1 trivial _ _).symm.trans hc_); subst hcs; clear hc_ hwc_))
            go_ret
            exact HEND.out _ HN4.out.g
      · by_cases h1 : lf - 1 < 0
        · have hb1 : decide (lf - 1 < 0) = true := decide_eq_true h1
          have hbad : lf - 1 < 0 ∨ deep > 32 ∨ x.f0.data.toList ∈ seen ∨ okN x = false := .inl h1
          have HF := HFE.out
          rw [if_pos hbad] at HF
          have HEND := Lib.hid (fun (w' : World) (hg : W.grownBy w' (some NB)) => show Ending.returned (.bool false) = Ending.returned (.bool (fineN l0 deep left []).1) ∧ W.grownBy w' (some NB) ∧ ((fineN l0 deep left []).1 = true → Boxed w' NB 3 (.int .i64 (fineN l0 deep left []).2) ∧ 0 ≤ (fineN l0 deep left []).2 ∧ (fineN l0 deep left []).2 ≤ 256) from ⟨congrArg (fun p : Bool × Int => Ending.returned (.bool p.1)) HF, hg, fun h => by rw [← HF] at h; exact absurd (show false = true from h) (by decide)⟩)
          clear HF hbad
          go_wp2_with (first | (at_mapUpdate; refine wpList_mapUpdate_own (H := Unit) _ rfl _ _ _ 64 rfl 9 3 (Go.Maps.string_keyed Tryd.underlying9) Tryd.underlying64 (plainElem Tryd.prog 3) W.heap.size k D rfl HOWN.out HKM.out _ _ _ rfl rfl HKEY.out (.lit (.int .i64 1)) [] (plainElem_int Tryd.underlying3 (by decide)) ?_; intro w4 hown4 hg4; have HN4 := Lib.hid (HN.out w4 1 hown4 hg4); have hcN := HN4.out.box.cell; have hcF := HN4.out.fb.cell; have hn4 := HN4.out.cells; clear hown4 hg4) | (at_lookup; refine wpList_lookup_own_int (H := Unit) _ rfl _ _ 64 rfl 9 3 .i64 (Go.Maps.string_keyed Tryd.underlying9) Tryd.underlying64 Tryd.underlying3 (zero_int _) W.heap.size _ _ rfl HOWN.out _ _ rfl HKEY.out ?_; intro c hc_ hwc_; have hcs : c = 0 := (lit_i ((HSE.out.2 _).symm.trans hc_)).trans (if_neg hm); subst hcs; clear hc_ hwc_) | (at_lookup; refine look_g (H := Unit) _ (by kernel_rfl) _ _ 64 rfl 9 3 .i64 (Go.Maps.string_keyed Tryd.underlying9) Tryd.underlying64 Tryd.underlying3 (zero_int _) W.heap.size _ _ rfl HN4.out.own _ _ rfl HKEY.out ?_; intro c hc_ hwc_; have hcs : c = 1 := lit_i ((Go.Maps.atKey_put_same (k := .string x.f0.data.toList) HSE.out.1 trivial _ _).symm.trans hc_); subst hcs; clear hc_ hwc_))
          go_ret
          exact HEND.out _ HN4.out.g
        · have hb1 : decide (lf - 1 < 0) = false := decide_eq_false h1
          by_cases h2 : deep > 32
          · have hb2 : decide (32 < deep) = true := decide_eq_true h2
            have hbad : lf - 1 < 0 ∨ deep > 32 ∨ x.f0.data.toList ∈ seen ∨ okN x = false := .inr (.inl h2)
            have HF := HFE.out
            rw [if_pos hbad] at HF
            have HEND := Lib.hid (fun (w' : World) (hg : W.grownBy w' (some NB)) => show Ending.returned (.bool false) = Ending.returned (.bool (fineN l0 deep left []).1) ∧ W.grownBy w' (some NB) ∧ ((fineN l0 deep left []).1 = true → Boxed w' NB 3 (.int .i64 (fineN l0 deep left []).2) ∧ 0 ≤ (fineN l0 deep left []).2 ∧ (fineN l0 deep left []).2 ≤ 256) from ⟨congrArg (fun p : Bool × Int => Ending.returned (.bool p.1)) HF, hg, fun h => by rw [← HF] at h; exact absurd (show false = true from h) (by decide)⟩)
            clear HF hbad
            go_wp2_with (first | (at_mapUpdate; refine wpList_mapUpdate_own (H := Unit) _ rfl _ _ _ 64 rfl 9 3 (Go.Maps.string_keyed Tryd.underlying9) Tryd.underlying64 (plainElem Tryd.prog 3) W.heap.size k D rfl HOWN.out HKM.out _ _ _ rfl rfl HKEY.out (.lit (.int .i64 1)) [] (plainElem_int Tryd.underlying3 (by decide)) ?_; intro w4 hown4 hg4; have HN4 := Lib.hid (HN.out w4 1 hown4 hg4); have hcN := HN4.out.box.cell; have hcF := HN4.out.fb.cell; have hn4 := HN4.out.cells; clear hown4 hg4) | (at_lookup; refine wpList_lookup_own_int (H := Unit) _ rfl _ _ 64 rfl 9 3 .i64 (Go.Maps.string_keyed Tryd.underlying9) Tryd.underlying64 Tryd.underlying3 (zero_int _) W.heap.size _ _ rfl HOWN.out _ _ rfl HKEY.out ?_; intro c hc_ hwc_; have hcs : c = 0 := (lit_i ((HSE.out.2 _).symm.trans hc_)).trans (if_neg hm); subst hcs; clear hc_ hwc_) | (at_lookup; refine look_g (H := Unit) _ (by kernel_rfl) _ _ 64 rfl 9 3 .i64 (Go.Maps.string_keyed Tryd.underlying9) Tryd.underlying64 Tryd.underlying3 (zero_int _) W.heap.size _ _ rfl HN4.out.own _ _ rfl HKEY.out ?_; intro c hc_ hwc_; have hcs : c = 1 := lit_i ((Go.Maps.atKey_put_same (k := .string x.f0.data.toList) HSE.out.1 trivial _ _).symm.trans hc_); subst hcs; clear hc_ hwc_))
            go_ret
            exact HEND.out _ HN4.out.g
          · have hb2 : decide (32 < deep) = false := decide_eq_false h2
            cases hnm : nameB x.f0 with
            | false =>
              have hbad : lf - 1 < 0 ∨ deep > 32 ∨ x.f0.data.toList ∈ seen ∨ okN x = false := .inr (.inr (.inr (by unfold okN; rw [hnm]; rfl)))
              have HF := HFE.out
              rw [if_pos hbad] at HF
              have HEND := Lib.hid (fun (w' : World) (hg : W.grownBy w' (some NB)) => show Ending.returned (.bool false) = Ending.returned (.bool (fineN l0 deep left []).1) ∧ W.grownBy w' (some NB) ∧ ((fineN l0 deep left []).1 = true → Boxed w' NB 3 (.int .i64 (fineN l0 deep left []).2) ∧ 0 ≤ (fineN l0 deep left []).2 ∧ (fineN l0 deep left []).2 ≤ 256) from ⟨congrArg (fun p : Bool × Int => Ending.returned (.bool p.1)) HF, hg, fun h => by rw [← HF] at h; exact absurd (show false = true from h) (by decide)⟩)
              clear HF hbad
              go_wp2_with (first | (at_mapUpdate; refine wpList_mapUpdate_own (H := Unit) _ rfl _ _ _ 64 rfl 9 3 (Go.Maps.string_keyed Tryd.underlying9) Tryd.underlying64 (plainElem Tryd.prog 3) W.heap.size k D rfl HOWN.out HKM.out _ _ _ rfl rfl HKEY.out (.lit (.int .i64 1)) [] (plainElem_int Tryd.underlying3 (by decide)) ?_; intro w4 hown4 hg4; have HN4 := Lib.hid (HN.out w4 1 hown4 hg4); have hcN := HN4.out.box.cell; have hcF := HN4.out.fb.cell; have hn4 := HN4.out.cells; clear hown4 hg4) | (at_lookup; refine wpList_lookup_own_int (H := Unit) _ rfl _ _ 64 rfl 9 3 .i64 (Go.Maps.string_keyed Tryd.underlying9) Tryd.underlying64 Tryd.underlying3 (zero_int _) W.heap.size _ _ rfl HOWN.out _ _ rfl HKEY.out ?_; intro c hc_ hwc_; have hcs : c = 0 := (lit_i ((HSE.out.2 _).symm.trans hc_)).trans (if_neg hm); subst hcs; clear hc_ hwc_) | (at_lookup; refine look_g (H := Unit) _ (by kernel_rfl) _ _ 64 rfl 9 3 .i64 (Go.Maps.string_keyed Tryd.underlying9) Tryd.underlying64 Tryd.underlying3 (zero_int _) W.heap.size _ _ rfl HN4.out.own _ _ rfl HKEY.out ?_; intro c hc_ hwc_; have hcs : c = 1 := lit_i ((Go.Maps.atKey_put_same (k := .string x.f0.data.toList) HSE.out.1 trivial _ _).symm.trans hc_); subst hcs; clear hc_ hwc_))
              refine (schema_named.calls x.f0 false _ (hnm ▸ named_is x.f0) (HT.out.below (HL.out _ HN4.out.g))).mono ?_
              rintro e w5 ⟨rfl, hb5⟩
              have HN5 := Lib.hid (HN4.out.next hb5)
              have hcN5 := HN5.out.box.cell
              have hcF5 := HN5.out.fb.cell
              have hn5 := HN5.out.cells
              clear hb5 hcN hcF hn4
              go_wp2_with fail
              go_ret
              exact HEND.out _ HN5.out.g
            | true =>
              go_wp2_with (first | (at_mapUpdate; refine wpList_mapUpdate_own (H := Unit) _ rfl _ _ _ 64 rfl 9 3 (Go.Maps.string_keyed Tryd.underlying9) Tryd.underlying64 (plainElem Tryd.prog 3) W.heap.size k D rfl HOWN.out HKM.out _ _ _ rfl rfl HKEY.out (.lit (.int .i64 1)) [] (plainElem_int Tryd.underlying3 (by decide)) ?_; intro w4 hown4 hg4; have HN4 := Lib.hid (HN.out w4 1 hown4 hg4); have hcN := HN4.out.box.cell; have hcF := HN4.out.fb.cell; have hn4 := HN4.out.cells; clear hown4 hg4) | (at_lookup; refine wpList_lookup_own_int (H := Unit) _ rfl _ _ 64 rfl 9 3 .i64 (Go.Maps.string_keyed Tryd.underlying9) Tryd.underlying64 Tryd.underlying3 (zero_int _) W.heap.size _ _ rfl HOWN.out _ _ rfl HKEY.out ?_; intro c hc_ hwc_; have hcs : c = 0 := (lit_i ((HSE.out.2 _).symm.trans hc_)).trans (if_neg hm); subst hcs; clear hc_ hwc_) | (at_lookup; refine look_g (H := Unit) _ (by kernel_rfl) _ _ 64 rfl 9 3 .i64 (Go.Maps.string_keyed Tryd.underlying9) Tryd.underlying64 Tryd.underlying3 (zero_int _) W.heap.size _ _ rfl HN4.out.own _ _ rfl HKEY.out ?_; intro c hc_ hwc_; have hcs : c = 1 := lit_i ((Go.Maps.atKey_put_same (k := .string x.f0.data.toList) HSE.out.1 trivial _ _).symm.trans hc_); subst hcs; clear hc_ hwc_))
              refine (schema_named.calls x.f0 true _ (hnm ▸ named_is x.f0) (HT.out.below (HL.out _ HN4.out.g))).mono ?_
              rintro e w5 ⟨rfl, hb5⟩
              have HN5 := Lib.hid (HN4.out.next hb5)
              have hcN5 := HN5.out.box.cell
              have hcF5 := HN5.out.fb.cell
              have hn5 := HN5.out.cells
              clear hb5 hcN hcF hn4
              by_cases h3 : x.f1 < 0
              · have hb3_ : decide (x.f1 < 0) = true := decide_eq_true h3
                have hbad : lf - 1 < 0 ∨ deep > 32 ∨ x.f0.data.toList ∈ seen ∨ okN x = false := .inr (.inr (.inr (by unfold okN; rw [decide_eq_false (show ¬ 0 ≤ x.f1 by omega)]; simp)))
                have HF := HFE.out
                rw [if_pos hbad] at HF
                have HEND := Lib.hid (fun (w' : World) (hg : W.grownBy w' (some NB)) => show Ending.returned (.bool false) = Ending.returned (.bool (fineN l0 deep left []).1) ∧ W.grownBy w' (some NB) ∧ ((fineN l0 deep left []).1 = true → Boxed w' NB 3 (.int .i64 (fineN l0 deep left []).2) ∧ 0 ≤ (fineN l0 deep left []).2 ∧ (fineN l0 deep left []).2 ≤ 256) from ⟨congrArg (fun p : Bool × Int => Ending.returned (.bool p.1)) HF, hg, fun h => by rw [← HF] at h; exact absurd (show false = true from h) (by decide)⟩)
                clear HF hbad
                go_wp2_with fail
                go_ret
                exact HEND.out _ HN5.out.g
              · have hb3_ : decide (x.f1 < 0) = false := decide_eq_false h3
                by_cases h4 : 2 < x.f1
                · have hb4_ : decide (2 < x.f1) = true := decide_eq_true h4
                  have hbad : lf - 1 < 0 ∨ deep > 32 ∨ x.f0.data.toList ∈ seen ∨ okN x = false := .inr (.inr (.inr (by unfold okN; rw [decide_eq_false (show ¬ x.f1 ≤ 2 by omega)]; simp)))
                  have HF := HFE.out
                  rw [if_pos hbad] at HF
                  have HEND := Lib.hid (fun (w' : World) (hg : W.grownBy w' (some NB)) => show Ending.returned (.bool false) = Ending.returned (.bool (fineN l0 deep left []).1) ∧ W.grownBy w' (some NB) ∧ ((fineN l0 deep left []).1 = true → Boxed w' NB 3 (.int .i64 (fineN l0 deep left []).2) ∧ 0 ≤ (fineN l0 deep left []).2 ∧ (fineN l0 deep left []).2 ≤ 256) from ⟨congrArg (fun p : Bool × Int => Ending.returned (.bool p.1)) HF, hg, fun h => by rw [← HF] at h; exact absurd (show false = true from h) (by decide)⟩)
                  clear HF hbad
                  go_wp2_with fail
                  go_ret
                  exact HEND.out _ HN5.out.g
                · have hb4_ : decide (2 < x.f1) = false := decide_eq_false h4
                  obtain ⟨kb, hkb⟩ := kind_all x.f0 x.f1 x.f2 x.f3 x.f4 x.f5
                  cases kb with
                  | false =>
                    have hbad : lf - 1 < 0 ∨ deep > 32 ∨ x.f0.data.toList ∈ seen ∨ okN x = false := .inr (.inr (.inr (by unfold okN; rw [hkb]; simp)))
                    have HF := HFE.out
                    rw [if_pos hbad] at HF
                    have HEND := Lib.hid (fun (w' : World) (hg : W.grownBy w' (some NB)) => show Ending.returned (.bool false) = Ending.returned (.bool (fineN l0 deep left []).1) ∧ W.grownBy w' (some NB) ∧ ((fineN l0 deep left []).1 = true → Boxed w' NB 3 (.int .i64 (fineN l0 deep left []).2) ∧ 0 ≤ (fineN l0 deep left []).2 ∧ (fineN l0 deep left []).2 ≤ 256) from ⟨congrArg (fun p : Bool × Int => Ending.returned (.bool p.1)) HF, hg, fun h => by rw [← HF] at h; exact absurd (show false = true from h) (by decide)⟩)
                    clear HF hbad
                    have HKB := Lib.hid hkb
                    clear hkb
                    go_wp2_with fail
                    refine (schema_kind.calls x.f0 x.f1 x.f2 x.f3 x.f4 P q x.f5 _ _ (Kd.C_below HMC.out (HL.out _ HN5.out.g)) HML.out HKB.out).mono ?_
                    rintro e w6 ⟨rfl, hb6⟩
                    have HN6 := Lib.hid (HN5.out.next hb6)
                    have hcN6 := HN6.out.box.cell
                    have hcF6 := HN6.out.fb.cell
                    have hn6 := HN6.out.cells
                    clear hb6 hcN5 hcF5 hn5
                    go_wp2_with fail
                    go_ret
                    exact HEND.out _ HN6.out.g
                  | true =>
                    have hgood : ¬ (lf - 1 < 0 ∨ deep > 32 ∨ x.f0.data.toList ∈ seen ∨ okN x = false) := by
                      have hok : okN x = true := by unfold okN; rw [hnm, hkb, decide_eq_true (show 0 ≤ x.f1 by omega), decide_eq_true (show x.f1 ≤ 2 by omega)]; rfl
                      rintro (h | h | h | h)
                      · omega
                      · omega
                      · exact hm h
                      · rw [hok] at h; cases h
                    have HF := HFE.out
                    rw [if_neg hgood] at HF
                    have HFG := Lib.hid HF
                    have HKB := Lib.hid hkb
                    clear hkb HF hgood
                    go_wp2_with fail
                    refine (schema_kind.calls x.f0 x.f1 x.f2 x.f3 x.f4 P q x.f5 _ _ (Kd.C_below HMC.out (HL.out _ HN5.out.g)) HML.out HKB.out).mono ?_
                    rintro e w6 ⟨rfl, hb6⟩
                    have HN6 := Lib.hid (HN5.out.next hb6)
                    have hcN6 := HN6.out.box.cell
                    have hcF6 := HN6.out.fb.cell
                    have hn6 := HN6.out.cells
                    clear hb6 hcN5 hcF5 hn5
                    go_wp2_with fail
                    have HC := ih x.f5 HSZ.out HSX.out.2 w0 NB b3 P q (deep + 1) (lf - 1) w6 HMC.out HT.out (HL.out _ HN6.out.g) hNB HB3.out HN6.out.box HN6.out.fb (by omega) (by have := HDL.out; omega) (by have := HDL.out; omega) (by omega)
                    cases hrb : (fineN x.f5 (deep + 1) (lf - 1) []).1 with
                    | false =>
                      rw [hrb] at HC
                      have HF := HFG.out
                      rw [if_pos hrb] at HF
                      have HEND := Lib.hid (fun (w' : World) (hg : W.grownBy w' (some NB)) => show Ending.returned (.bool false) = Ending.returned (.bool (fineN l0 deep left []).1) ∧ W.grownBy w' (some NB) ∧ ((fineN l0 deep left []).1 = true → Boxed w' NB 3 (.int .i64 (fineN l0 deep left []).2) ∧ 0 ≤ (fineN l0 deep left []).2 ∧ (fineN l0 deep left []).2 ≤ 256) from ⟨congrArg (fun p : Bool × Int => Ending.returned (.bool p.1)) HF, hg, fun h => by rw [← HF] at h; exact absurd (show false = true from h) (by decide)⟩)
                      clear HF hrb
                      go_wp2_with fail
                      refine HC.mono ?_
                      rintro e w7 ⟨rfl, hg7, -⟩
                      have HG7 := Lib.hid (gb_trans HN6.out.g hg7)
                      clear hg7
                      go_wp2_with fail
                      go_ret
                      exact HEND.out _ HG7.out
                    | true =>
                      rw [hrb] at HC
                      have HF := HFG.out
                      rw [if_neg (by rw [hrb]; simp)] at HF
                      have HF7 := Lib.hid HF
                      clear HF hrb
                      go_wp2_with fail
                      refine HC.mono ?_
                      rintro e w7 ⟨rfl, hg7, hpost⟩
                      have HG7 := Lib.hid (gb_trans HN6.out.g hg7)
                      have HP7 := Lib.hid (hpost trivial)
                      have HO7 := Lib.hid (HN6.out.own.kept hg7 (fun e => HNE.out (Option.some.inj e)))
                      clear hg7 hpost
                      go_wp2_with fail
                      go_roundw
                      case rel => exact ⟨k + 1, _, _, x.f0.data.toList :: seen, HLE.out, by go_num, HF7.out, HP7.out.2.1, HP7.out.2.2, HG7.out, HP7.out.1, HO7.out, HSE.out.put _⟩
                      case measure => simp [intOf]; omega
    · have hke : k = l0.length := by omega
      subst hke
      have HFE := Lib.hid (show (true, lf) = fineN l0 deep left [] by rw [← hfe, List.drop_length, fineN])
      have HE := Lib.hid (And.intro hG (And.intro hbl (And.intro hf0 hf1)))
      clear hfe hG hbl hown hse
      go_wp2_with fail
      go_ret
      refine ⟨congrArg (fun p : Bool × Int => Ending.returned (.bool p.1)) HFE.out, HE.out.1, fun _ => ?_⟩
      rw [← HFE.out]
      exact HE.out.2
theorem fine_all_ : ∀ n, FineAt n
  | 0 => fun l0 hn => by
    exfalso
    cases l0 <;> simp at hn
  | n + 1 => fine_step (fine_all_ n)
def schema_Check.f (a0_0 : ByteArray) (l0_1 : List S62) : Option Int := if smallN l0_1 = true then some (if nameB a0_0 = true ∧ l0_1.length ≠ 0 ∧ (fineN l0_1 1 256 []).1 = true then 0 else 2) else none
set_option maxHeartbeats 4000000 in
set_option maxRecDepth 100000 in
theorem schema_Check.calls (a0_0 : ByteArray) (A0_1 : Option Addr) (c0_1 : Nat) (l0_1 : List (S62)) (r : Int) (w : World) (hr0_1 : Kd.C k62 w A0_1 l0_1.length l0_1) (hc0_1 : l0_1.length ≤ c0_1) (h : schema_Check.f a0_0 l0_1 = some r) (hT_ : Tabs_ w := by repeat (first | exact hT_ | exact Tabs_.below hT_ HB.out | exact Tabs_.below hT_ HB | with_reducible refine Tabs_.alloc ?_ _ | with_reducible refine Tabs_.drewN ?_ _ | with_reducible refine Tabs_.drew ?_)) :
    Calls Tryd.prog 9 #[.agg #[.string a0_0, .slice A0_1 l0_1.length c0_1]] w fun e w' => e = .returned (.int .i64 r) ∧ Below w.heap.size w w' := by
  unfold schema_Check.f at h
  split at h
  case isFalse => cases h
  case isTrue hsm =>
  have HRES := Lib.hid (Option.some.inj h)
  clear h
  have HTT := Lib.hid hT_
  have HRR := Lib.hid hr0_1
  have hsb := blk_alloc (blk_alloc (blk_new w (.cells #[.string a0_0, .slice A0_1 l0_1.length c0_1] 24)) (.cells #[.int .i64 256] 3)) (.cells #[fnV (w.heap.size + 1) (w.heap.size + 1 + 1)] 63)
  have hbx := (Boxed.new (w.alloc (.cells #[.string a0_0, .slice A0_1 l0_1.length c0_1] 24)) 3 (.int .i64 256)).alloc (.cells #[fnV (w.heap.size + 1) (w.heap.size + 1 + 1)] 63)
  have hfb := Boxed.new ((w.alloc (.cells #[.string a0_0, .slice A0_1 l0_1.length c0_1] 24)).alloc (.cells #[.int .i64 256] 3)) 63 (fnV (w.heap.size + 1) (w.heap.size + 1 + 1))
  have hB := below_alloc (below_alloc (below_alloc (Below.refl w.heap.size w) (.cells #[.string a0_0, .slice A0_1 l0_1.length c0_1] 24)) (.cells #[.int .i64 256] 3)) (.cells #[fnV (w.heap.size + 1) (w.heap.size + 1 + 1)] 63)
  simp only [World.size_alloc] at hbx hfb
  have HH := Lib.hid (And.intro hsb (And.intro hbx (And.intro hfb hB)))
  clear hsb hbx hfb hB hT_ hr0_1
  go_enter Tryd.func9, Tryd.ntmps9
  go_wp2_with fail
  generalize ((w.alloc (.cells #[.string a0_0, .slice A0_1 l0_1.length c0_1] 24)).alloc (.cells #[.int .i64 256] 3)).alloc (.cells #[fnV (w.heap.size + 1) (w.heap.size + 1 + 1)] 63) = w3 at HH
  obtain ⟨b, hb⟩ : ∃ b, nameB a0_0 = b := ⟨_, rfl⟩
  refine (schema_named.calls a0_0 b w3 (hb ▸ named_is a0_0) (HTT.out.below HH.out.2.2.2)).mono ?_
  rintro e w4 ⟨rfl, hb4⟩
  have hs1 := blk_cell (blk_below HH.out.1 hb4) 1
  have HX := Lib.hid (And.intro (HH.out.2.1.kept (gb_of none hb4) (by simp)) (And.intro (HH.out.2.2.1.kept (gb_of none hb4) (by simp)) (below_step HH.out.2.2.2 hb4)))
  have hfc := HX.out.2.1.cell
  have HNM := Lib.hid hb
  clear hb4 hb HH
  cases b with
  | false =>
    go_wp2_with fail
    go_ret
    exact ⟨by show Ending.returned (.int .i64 2) = Ending.returned (.int .i64 r); rw [← HRES.out, if_neg (by rw [HNM.out]; simp)], HX.out.2.2⟩
  | true =>
    by_cases hl : l0_1.length = 0
    · have hl1 : ((l0_1.length : Int) == 0) = true := by rw [hl]; rfl
      have hl2 : decide ((l0_1.length : Int) = 0) = true := decide_eq_true (by omega)
      have HLN := Lib.hid hl
      clear hl
      go_wp2_with fail
      go_ret
      exact ⟨by show Ending.returned (.int .i64 2) = Ending.returned (.int .i64 r); rw [← HRES.out, if_neg (by rintro ⟨_, h, _⟩; exact h HLN.out)], HX.out.2.2⟩
    · have hl1 : ((l0_1.length : Int) == 0) = false := beq_eq_false_iff_ne.mpr (by omega)
      have hl2 : decide ((l0_1.length : Int) = 0) = false := decide_eq_false (by omega)
      have HLN := Lib.hid hl
      clear hl
      have HC := fine_all_ _ l0_1 (Nat.le_refl _) hsm w (w.heap.size + 1) (w.heap.size + 1 + 1) A0_1 c0_1 1 256 w4 HRR.out HTT.out HX.out.2.2 (by omega) (by omega) HX.out.1 HX.out.2.1 (by omega) (by omega) (by omega) (by omega)
      obtain ⟨f, hf⟩ : ∃ f, (fineN l0_1 1 256 []).1 = f := ⟨_, rfl⟩
      rw [hf] at HC
      have HF := Lib.hid hf
      have HEND := Lib.hid (fun (w5 : World) (hg : w4.grownBy w5 (some (w.heap.size + 1))) => HX.out.2.2.trans (gb_low hg HX.out.2.2.size (Nat.le_succ _)))
      cases f with
      | false =>
        clear hf
        go_wp2_with fail
        refine HC.mono ?_
        rintro e w5 ⟨rfl, hg5, -⟩
        have HE5 := Lib.hid (HEND.out w5 hg5)
        clear hg5
        go_wp2_with fail
        go_ret
        exact ⟨by show Ending.returned (.int .i64 2) = Ending.returned (.int .i64 r); rw [← HRES.out, if_neg (by rw [HF.out]; simp)], HE5.out⟩
      | true =>
        clear hf
        go_wp2_with fail
        refine HC.mono ?_
        rintro e w5 ⟨rfl, hg5, -⟩
        have HE5 := Lib.hid (HEND.out w5 hg5)
        clear hg5
        go_wp2_with fail
        go_ret
        exact ⟨by show Ending.returned (.int .i64 0) = Ending.returned (.int .i64 r); rw [← HRES.out, if_pos ⟨HNM.out, HLN.out, HF.out⟩], HE5.out⟩


end Go.Proofs.YtjdjlccdidfgoaaDoor.H
end
