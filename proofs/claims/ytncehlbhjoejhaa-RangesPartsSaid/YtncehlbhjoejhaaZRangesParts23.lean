/- Texts of the claim, packed: H61, H66, H52. -/
import Derived.BigRegion
import Derived.Deep.Cut
import Derived.Deep.CutBlock
import Derived.Deep.DeepCutAuto
import Derived.Deep.RegionHeld3
import Derived.Deep.RegionWith
import Derived.Lib.Hide
import Derived.Test.YtncehlbhjoejhaaZRangesParts4
import Derived.Test.YtncehlbhjoejhaaZRangesParts6
import Derived.Test.YtncehlbhjoejhaaZRangesParts9
import Derived.Test.YtncehlbhjoejhaaZRangesParts16
import Derived.Test.YtncehlbhjoejhaaZRangesParts17
import Derived.Test.YtncehlbhjoejhaaZRangesParts18
import Derived.Test.YtncehlbhjoejhaaZRangesParts22
section
-- Laid by this session's hprint.py, out of the kit's print.py and texts of the session. Not trusted: Lean checks it.
namespace Go.Proofs.Ytncehlbhjoejhaa.H
open Go.RowKit Go.Proofs.YtncehlbhjoejhaaW.PrintWords Go.Proofs.YtncehlbhjoejhaaW.PrintLast Go.Proofs.YtncehlbhjoejhaaW.PrintMore
attribute [local go_sem] max2_int min2_int max_two min_two max_three min_three max_four min_four   -- for this text's walks alone
set_option linter.unusedVariables false
set_option linter.unusedSimpArgs false

-- OVPART Derived.Lib.Hide Derived.Deep.RegionHeld3 Derived.BigRegion Derived.Deep.RegionWith Derived.Deep.Cut Derived.Deep.CutBlock Derived.Deep.DeepCutAuto
/-! ### marquetryref22_Of: function 13 -/
theorem rdD_at (l : List S29) (i : Nat) (h : i < l.length) : rd_T29 l (i : Int) = l[i] := by
  unfold rd_T29
  rw [Int.toNat_natCast, List.getD_eq_getElem?_getD, List.getElem?_eq_getElem h]
  rfl
structure RfA (w W : World) (t0 t1 : Int) : Prop where
  b0 : W.heap[w.heap.size]? = some (.cells #[.int .i64 t0, .int .i64 t1] 24 (0, 0))
  b6 : W.heap[w.heap.size + 1]? = some (.cells #[.int .i64 0, .bool false, .string ⟨#[]⟩, .string ⟨#[]⟩] 31 (0, 0))
  below : Below w.heap.size w W
theorem RfA.next {w W W' : World} {t0 t1 : Int} (h : RfA w W t0 t1) (hb : Below W.heap.size W W') : RfA w W' t0 t1 := ⟨blk_below h.b0 hb, blk_below h.b6 hb, below_step h.below hb⟩
theorem RfA.start (w : World) (t0 t1 : Int) : RfA w ((w.alloc (.cells #[.int .i64 t0, .int .i64 t1] 24)).alloc (.cells #[.int .i64 0, .bool false, .string ⟨#[]⟩, .string ⟨#[]⟩] 31)) t0 t1 := by
  refine ⟨blk_alloc (blk_new w _) _, ?_, below_alloc (below_alloc (Below.refl _ _) _) _⟩
  have h := blk_new (w.alloc (.cells #[.int .i64 t0, .int .i64 t1] 24)) (.cells #[.int .i64 0, .bool false, .string ⟨#[]⟩, .string ⟨#[]⟩] 31)
  rw [World.size_alloc] at h
  exact h
theorem RfA.far {w W : World} {B : Nat} {t0 t1 : Int} (h : RfA w W t0 t1) (hB : w.heap.size + 1 < B) (k : Nat) (v : Value) : RfA w (W.setCell ⟨B, k, none⟩ v) t0 t1 :=
  ⟨blk_far h.b0 (p := ⟨B, k, none⟩) (by show w.heap.size ≠ B; omega) v, blk_far h.b6 (p := ⟨B, k, none⟩) (by show w.heap.size + 1 ≠ B; omega) v, h.below.setCell (p := ⟨B, k, none⟩) (by show w.heap.size ≤ B; omega) v⟩
structure RfB (w W : World) (B : Nat) (t0 t1 n : Int) (h : Bool) (a b : ByteArray) : Prop extends RfA w W t0 t1 where
  lt : w.heap.size + 1 < B
  b7 : W.heap[B]? = some (.cells #[.int .i64 n, .bool h, .string a, .string b] 31 (0, 0))
theorem RfB.next {W' : World} {w W : World} {B : Nat} {t0 t1 n : Int} {h : Bool} {a b : ByteArray} (q : RfB w W B t0 t1 n h a b) (hb : Below W.heap.size W W') : RfB w W' B t0 t1 n h a b := ⟨q.toRfA.next hb, q.lt, blk_below q.b7 hb⟩
theorem RfB.drew {w W : World} {B : Nat} {t0 t1 n : Int} {h : Bool} {a b : ByteArray} (q : RfB w W B t0 t1 n h a b) : RfB w W.drew B t0 t1 n h a b := ⟨⟨q.b0, q.b6, q.below.drew⟩, q.lt, q.b7⟩
theorem RfB.start {w W : World} {t0 t1 : Int} (q : RfA w W t0 t1) (n : Int) : RfB w (W.alloc (.cells #[.int .i64 n, .bool false, .string ⟨#[]⟩, .string ⟨#[]⟩] 31)) W.heap.size t0 t1 n false ⟨#[]⟩ ⟨#[]⟩ := ⟨q.next (below_alloc (Below.refl _ _) _), blk_lt q.b6, blk_new W _⟩
theorem RfB.setA {w W : World} {B : Nat} {t0 t1 n : Int} {h : Bool} {a b : ByteArray} (q : RfB w W B t0 t1 n h a b) (v : ByteArray) : RfB w (W.setCell ⟨B, 2, none⟩ (.string v)) B t0 t1 n h v b := ⟨q.toRfA.far q.lt 2 _, q.lt, blk_put q.b7 2 _ rfl⟩
theorem RfB.setB {w W : World} {B : Nat} {t0 t1 n : Int} {h : Bool} {a b : ByteArray} (q : RfB w W B t0 t1 n h a b) (v : ByteArray) : RfB w (W.setCell ⟨B, 3, none⟩ (.string v)) B t0 t1 n h a v := ⟨q.toRfA.far q.lt 3 _, q.lt, blk_put q.b7 3 _ rfl⟩
theorem RfB.elem {w W : World} {B : Nat} {t0 t1 n : Int} {h : Bool} {a b : ByteArray} {l : List S29} (q : RfB w W B t0 t1 n h a b) (A : Option Addr) (hr : Kd.C k29 w A l.length l) {ad : Addr} (j : Nat) (hj : j < l.length) (hA : A = some ad := by rfl) :
    W.cell? (ad.add (j * 3)) = some (.int .i64 l[j].f0) ∧ W.cell? ⟨(ad.add (j * 3)).block, (ad.add (j * 3)).off + 1, none⟩ = some (.int .i64 l[j].f1) ∧ W.cell? ⟨(ad.add (j * 3)).block, (ad.add (j * 3)).off + 2, none⟩ = some (.string l[j].f2) := by
  obtain ⟨ad', e, h0, h1, h2⟩ := at_T29 (Kd.C_below hr q.below) (j : Int) (by omega) (by omega)
  rw [hA] at e
  obtain rfl := Option.some.inj e
  rw [rdD_at l j hj, Int.toNat_natCast] at h0 h1 h2
  exact ⟨h0, h1, h2⟩
theorem RfA.cells {w W : World} {t0 t1 : Int} (h : RfA w W t0 t1) : (W.cell? ⟨w.heap.size, 0, none⟩ = some (.int .i64 t0) ∧ W.cell? ⟨w.heap.size, 1, none⟩ = some (.int .i64 t1)) ∧
    (W.cell? ⟨w.heap.size + 1, 0, none⟩ = some (.int .i64 0) ∧ W.cell? ⟨w.heap.size + 1, 1, none⟩ = some (.bool false) ∧ W.cell? ⟨w.heap.size + 1, 2, none⟩ = some (.string ⟨#[]⟩) ∧ W.cell? ⟨w.heap.size + 1, 3, none⟩ = some (.string ⟨#[]⟩)) ∧
    (W.frozen? ⟨w.heap.size + 1, 0, none⟩ = false ∧ W.frozen? ⟨w.heap.size + 1, 1, none⟩ = false ∧ W.frozen? ⟨w.heap.size + 1, 2, none⟩ = false ∧ W.frozen? ⟨w.heap.size + 1, 3, none⟩ = false) :=
  ⟨⟨blk_cell h.b0 0, blk_cell h.b0 1⟩, ⟨blk_cell h.b6 0, blk_cell h.b6 1, blk_cell h.b6 2, blk_cell h.b6 3⟩, blk_frozen h.b6 0, blk_frozen h.b6 1, blk_frozen h.b6 2, blk_frozen h.b6 3⟩
end Go.Proofs.Ytncehlbhjoejhaa.H
end
section
-- Laid by this session's hprint.py, out of the kit's print.py and texts of the session. Not trusted: Lean checks it.
namespace Go.Proofs.Ytncehlbhjoejhaa.H
open Go.RowKit Go.Proofs.YtncehlbhjoejhaaW.PrintWords Go.Proofs.YtncehlbhjoejhaaW.PrintLast Go.Proofs.YtncehlbhjoejhaaW.PrintMore
attribute [local go_sem] max2_int min2_int max_two min_two max_three min_three max_four min_four   -- for this text's walks alone
set_option linter.unusedVariables false
set_option linter.unusedSimpArgs false

-- OVPART Derived.Lib.Hide Derived.Deep.RegionHeld3 Derived.BigRegion Derived.Deep.RegionWith Derived.Deep.Cut Derived.Deep.CutBlock Derived.Deep.DeepCutAuto
/-! ### marquetrylaw22_RangesParts: function 9 -/
def marquetrylaw22_RangesParts.chk (t0 t1 : Int) : List S29 → Option Bool
  | [] => some true
  | x :: xs => (datum_Of.f x.f0 x.f1 x.f2 t0 t1).bind fun o => if o = false then some false else (ranges_Lay.f 10 x.f0 x.f1 x.f2).bind fun u => (ranges_Read.f t0 t1 u).bind fun d => if d.1 = x.f0 ∧ d.2.1 = x.f1 ∧ d.2.2.1 = x.f2 ∧ d.2.2.2 = 0 then marquetrylaw22_RangesParts.chk t0 t1 xs else none
def marquetrylaw22_RangesParts.g (k : Nat) (t0 t1 : Int) (l : List S29) (cut : Int) : Option Bool :=
  (ranges_Of.f t0 t1 l 3).bind fun s => (ranges_Of.f t0 t1 (l.take cut.toNat) 1).bind fun a => (ranges_Of.f t0 t1 (l.drop cut.toNat) 2).bind fun b =>
    (ranges_Join.f k t0 t1 [⟨a.1, a.2.1, a.2.2.1, a.2.2.2⟩, ⟨b.1, b.2.1, b.2.2.1, b.2.2.2⟩]).bind fun p => (ranges_Join.f k t0 t1 [⟨s.1, s.2.1, s.2.2.1, s.2.2.2⟩]).bind fun o => (ranges_Of.f t0 t1 l.reverse 3).bind fun r =>
      if (s.1 = r.1 ∧ s.2.1 = r.2.1 ∧ s.2.2.1 = r.2.2.1 ∧ s.2.2.2 = r.2.2.2) ∧ (s.1 = p.1 ∧ s.2.1 = p.2.1 ∧ s.2.2.1 = p.2.2.1 ∧ s.2.2.2 = p.2.2.2.1 ∧ p.2.2.2.2 = 0) ∧ (s.1 = o.1 ∧ s.2.1 = o.2.1 ∧ s.2.2.1 = o.2.2.1 ∧ s.2.2.2 = o.2.2.2.1 ∧ o.2.2.2.2 = 0) then some true else none
def marquetrylaw22_RangesParts.f (k : Nat) (t0 t1 : Int) (l : List S29) (cut : Int) : Option Bool :=
  if l.length > 100 then some true else (marquetrylaw22_bytes.f k l).bind fun n => if n > 10000 then some true else if cut < 0 then some true else if cut > (l.length : Int) then some true else if datum_Check.v t0 t1 ≠ 0 then some true else
    (marquetrylaw22_RangesParts.chk t0 t1 l.reverse).bind fun ok => if ok = false then some true else marquetrylaw22_RangesParts.g k t0 t1 l cut
theorem chk_step {t0 t1 : Int} {x : S29} {xs : List S29} {ok : Bool} (h : marquetrylaw22_RangesParts.chk t0 t1 (x :: xs) = some ok) :
    ∃ o, datum_Of.f x.f0 x.f1 x.f2 t0 t1 = some o ∧ ((o = false ∧ ok = false) ∨ (o = true ∧ ∃ u, ranges_Lay.f 10 x.f0 x.f1 x.f2 = some u ∧ ranges_Read.f t0 t1 u = some (x.f0, x.f1, x.f2, 0) ∧ marquetrylaw22_RangesParts.chk t0 t1 xs = some ok)) := by
  unfold marquetrylaw22_RangesParts.chk at h
  obtain ⟨o, h1, h2⟩ := Option.bind_eq_some_iff.mp h
  refine ⟨o, h1, ?_⟩
  cases o with
  | false => exact .inl ⟨rfl, by simpa using h2.symm⟩
  | true =>
    rw [if_neg (show ¬ (true = false) by decide)] at h2
    obtain ⟨u, h3, h4⟩ := Option.bind_eq_some_iff.mp h2
    obtain ⟨⟨d0, d1, d2, d3⟩, h5, h6⟩ := Option.bind_eq_some_iff.mp h4
    simp only at h6
    split at h6
    case isFalse => cases h6
    case isTrue hd =>
      obtain ⟨rfl, rfl, rfl, rfl⟩ := hd
      exact .inr ⟨rfl, u, h3, h5, h6⟩
theorem rev_step {l : List S29} {j : Nat} (hj : j < l.length) : (l.take (j + 1)).reverse = l[j] :: (l.take j).reverse := by
  rw [List.take_succ_eq_append_getElem hj, List.reverse_append]
  rfl
theorem drop_step {l : List S29} {j : Nat} (hj : j < l.length) : (l.drop j).reverse = (l.drop (j + 1)).reverse ++ [l[j]] := by
  rw [List.drop_eq_getElem_cons hj, List.reverse_cons]
structure RkP (w W : World) (t0 t1 : Int) (v : Value) (xs : List S29) : Prop where
  b0 : W.heap[w.heap.size]? = some (.cells #[.int .i64 t0, .int .i64 t1] 24 (0, 0))
  hr : Kd.R k29 29 W w.heap.size (fun _ => True) v xs
  below : Below w.heap.size w W
theorem RkP.next {W' : World} {w W : World} {t0 t1 : Int} {v : Value} {xs : List S29} (h : RkP w W t0 t1 v xs) (hb : Below W.heap.size W W') : RkP w W' t0 t1 v xs := ⟨blk_below h.b0 hb, Kd.R_below h.hr hb, below_step h.below hb⟩
theorem RkP.drew {w W : World} {t0 t1 : Int} {v : Value} {xs : List S29} (h : RkP w W t0 t1 v xs) : RkP w W.drew t0 t1 v xs := ⟨h.b0, Kd.R_drew h.hr, h.below.drew⟩
theorem RkP.alloc {w W : World} {t0 t1 : Int} {v : Value} {xs : List S29} (h : RkP w W t0 t1 v xs) (o : Obj) : RkP w (W.alloc o) t0 t1 v xs := h.next (below_alloc (Below.refl _ _) _)
/-- A cell of a block that is none of the row's, made since. -/
theorem RkP.far {w W : World} {t0 t1 : Int} {v : Value} {xs : List S29} (h : RkP w W t0 t1 v xs) {B : Nat} (hB : w.heap.size < B) (hn : Kd.R k29 29 W w.heap.size (fun k => k ≠ B) v xs) (j : Nat) (u : Value) : RkP w (W.setCell ⟨B, j, none⟩ u) t0 t1 v xs :=
  ⟨blk_far h.b0 (p := ⟨B, j, none⟩) (by show w.heap.size ≠ B; omega) u, Kd.R_mono (Kd.R_far (p := ⟨B, j, none⟩) hn (fun _ hk => hk) u) (fun _ _ => trivial), h.below.setCell (p := ⟨B, j, none⟩) (by show w.heap.size ≤ B; omega) u⟩
/-- The row and a new block's cells, filled. -/
structure RkN (w W : World) (B : Nat) (t0 t1 : Int) (v : Value) (xs : List S29) (c0 c1 c2 : Value) : Prop extends RkP w W t0 t1 v xs where
  lt : w.heap.size < B
  hn : Kd.R k29 29 W w.heap.size (fun k => k ≠ B) v xs
  kb : W.heap[B]? = some (.cells #[c0, c1, c2] 29 (0, 0))
theorem RkN.start {w W : World} {t0 t1 : Int} {v : Value} {xs : List S29} (h : RkP w W t0 t1 v xs) (c0 c1 c2 : Value) : RkN w (W.alloc (.cells #[c0, c1, c2] 29)) W.heap.size t0 t1 v xs c0 c1 c2 :=
  ⟨h.alloc _, blk_lt h.b0, Kd.R_mono (Kd.R_alloc (Kd.R_bound h.hr) _) (fun k hk => Nat.ne_of_lt hk.2.2.1), blk_new W _⟩
theorem RkN.next {w W W' : World} {B : Nat} {t0 t1 : Int} {v : Value} {xs : List S29} {c0 c1 c2 : Value} (h : RkN w W B t0 t1 v xs c0 c1 c2) (hb : Below W.heap.size W W') : RkN w W' B t0 t1 v xs c0 c1 c2 := ⟨h.toRkP.next hb, h.lt, Kd.R_below h.hn hb, blk_below h.kb hb⟩
theorem RkN.put {w W : World} {B : Nat} {t0 t1 : Int} {v : Value} {xs : List S29} {c0 c1 c2 : Value} (h : RkN w W B t0 t1 v xs c0 c1 c2) (x y z : Value) : RkN w (((W.setCell ⟨B, 0, none⟩ x).setCell ⟨B, 1, none⟩ y).setCell ⟨B, 2, none⟩ z) B t0 t1 v xs x y z := by
  have n1 := Kd.R_far (p := ⟨B, 0, none⟩) h.hn (fun _ hk => hk) x
  have n2 := Kd.R_far (p := ⟨B, 1, none⟩) n1 (fun _ hk => hk) y
  have n3 := Kd.R_far (p := ⟨B, 2, none⟩) n2 (fun _ hk => hk) z
  exact ⟨((h.toRkP.far h.lt h.hn 0 x).far h.lt n1 1 y).far h.lt n2 2 z, h.lt, n3, put3 h.kb x y z⟩
theorem RkN.cells {w W : World} {B : Nat} {t0 t1 : Int} {v : Value} {xs : List S29} {c0 c1 c2 : Value} (h : RkN w W B t0 t1 v xs c0 c1 c2) : (W.cell? ⟨B, 0, none⟩ = some c0 ∧ W.cell? ⟨B, 1, none⟩ = some c1 ∧ W.cell? ⟨B, 2, none⟩ = some c2) ∧ (W.frozen? ⟨B, 0, none⟩ = false ∧ W.frozen? ⟨B, 1, none⟩ = false ∧ W.frozen? ⟨B, 2, none⟩ = false) :=
  ⟨⟨blk_cell h.kb 0, blk_cell h.kb 1, blk_cell h.kb 2⟩, blk_frozen h.kb 0, blk_frozen h.kb 1, blk_frozen h.kb 2⟩
theorem RkP.held {w W : World} {t0 t1 : Int} {v : Value} {xs : List S29} {l : List S29} (h : RkP w W t0 t1 v xs) {ad : Addr} (hr : Kd.C k29 w (some ad) l.length l) {j : Nat} (hj : j < l.length) :
    (W.cell? ⟨w.heap.size, 0, none⟩ = some (.int .i64 t0) ∧ W.cell? ⟨w.heap.size, 1, none⟩ = some (.int .i64 t1)) ∧ (W.cell? (ad.add (j * 3)) = some (.int .i64 l[j].f0) ∧ W.cell? ⟨(ad.add (j * 3)).block, (ad.add (j * 3)).off + 1, none⟩ = some (.int .i64 l[j].f1) ∧ W.cell? ⟨(ad.add (j * 3)).block, (ad.add (j * 3)).off + 2, none⟩ = some (.string l[j].f2)) := by
  obtain ⟨ad', e, h0, h1, h2⟩ := at_T29 (Kd.C_below hr h.below) (j : Int) (by omega) (by omega)
  obtain rfl := Option.some.inj e
  rw [rdD_at l j hj, Int.toNat_natCast] at h0 h1 h2
  exact ⟨⟨blk_cell h.b0 0, blk_cell h.b0 1⟩, h0, h1, h2⟩
theorem RkP.ty {w W : World} {t0 t1 : Int} {v : Value} {xs : List S29} (h : RkP w W t0 t1 v xs) : W.cell? ⟨w.heap.size, 0, none⟩ = some (.int .i64 t0) ∧ W.cell? ⟨w.heap.size, 1, none⟩ = some (.int .i64 t1) := ⟨blk_cell h.b0 0, blk_cell h.b0 1⟩
/-- What is known, behind a block of it. -/
structure RkQ (w W : World) (B : Nat) (t0 t1 : Int) (v : Value) (xs : List S29) (s1 : Int) (s2 : Bool) (s3 s4 : ByteArray) : Prop extends RkP w W t0 t1 v xs where
  lt : w.heap.size < B
  bs : W.heap[B]? = some (.cells #[.int .i64 s1, .bool s2, .string s3, .string s4] 31 (0, 0))
theorem RkQ.next {w W W' : World} {B : Nat} {t0 t1 : Int} {v : Value} {xs : List S29} {s1 : Int} {s2 : Bool} {s3 s4 : ByteArray} (h : RkQ w W B t0 t1 v xs s1 s2 s3 s4) (hb : Below W.heap.size W W') : RkQ w W' B t0 t1 v xs s1 s2 s3 s4 := ⟨h.toRkP.next hb, h.lt, blk_below h.bs hb⟩
theorem RkQ.start {w W : World} {t0 t1 : Int} {v : Value} {xs : List S29} (h : RkP w W t0 t1 v xs) (s1 : Int) (s2 : Bool) (s3 s4 : ByteArray) : RkQ w (W.alloc (.cells #[.int .i64 s1, .bool s2, .string s3, .string s4] 31)) W.heap.size t0 t1 v xs s1 s2 s3 s4 := ⟨h.alloc _, blk_lt h.b0, blk_new W _⟩
theorem RkQ.cells {w W : World} {B : Nat} {t0 t1 : Int} {v : Value} {xs : List S29} {s1 : Int} {s2 : Bool} {s3 s4 : ByteArray} (h : RkQ w W B t0 t1 v xs s1 s2 s3 s4) : W.cell? ⟨B, 0, none⟩ = some (.int .i64 s1) ∧ W.cell? ⟨B, 1, none⟩ = some (.bool s2) ∧ W.cell? ⟨B, 2, none⟩ = some (.string s3) ∧ W.cell? ⟨B, 3, none⟩ = some (.string s4) := ⟨blk_cell h.bs 0, blk_cell h.bs 1, blk_cell h.bs 2, blk_cell h.bs 3⟩
theorem cells4 {W : World} {C : Nat} {t : TypeId} {c0 c1 c2 c3 : Value} (h : W.heap[C]? = some (.cells #[c0, c1, c2, c3] t (0, 0))) : (W.cell? ⟨C, 0, none⟩ = some c0 ∧ W.cell? ⟨C, 1, none⟩ = some c1 ∧ W.cell? ⟨C, 2, none⟩ = some c2 ∧ W.cell? ⟨C, 3, none⟩ = some c3) ∧ (W.frozen? ⟨C, 0, none⟩ = false ∧ W.frozen? ⟨C, 1, none⟩ = false ∧ W.frozen? ⟨C, 2, none⟩ = false ∧ W.frozen? ⟨C, 3, none⟩ = false) :=
  ⟨⟨blk_cell h 0, blk_cell h 1, blk_cell h 2, blk_cell h 3⟩, blk_frozen h 0, blk_frozen h 1, blk_frozen h 2, blk_frozen h 3⟩
theorem far4 {W : World} {C C' : Nat} {cs : Array Value} {t : TypeId} (h : W.heap[C']? = some (.cells cs t (0, 0))) (hne : C' ≠ C) (x y z u : Value) : ((((W.setCell ⟨C, 0, none⟩ x).setCell ⟨C, 1, none⟩ y).setCell ⟨C, 2, none⟩ z).setCell ⟨C, 3, none⟩ u).heap[C']? = some (.cells cs t (0, 0)) :=
  blk_far (blk_far (blk_far (blk_far h (p := ⟨C, 0, none⟩) hne x) (p := ⟨C, 1, none⟩) hne y) (p := ⟨C, 2, none⟩) hne z) (p := ⟨C, 3, none⟩) hne u
theorem RkQ.set1 {w W : World} {B C : Nat} {t0 t1 : Int} {v : Value} {xs : List S29} {s1 : Int} {s2 : Bool} {s3 s4 : ByteArray} {cs : Array Value} (h : RkQ w W B t0 t1 v xs s1 s2 s3 s4) (hk : W.heap[C]? = some (.cells cs 31 (0, 0))) (hC : B < C) (j : Nat) (u : Value) : RkQ w (W.setCell ⟨C, j, none⟩ u) B t0 t1 v xs s1 s2 s3 s4 :=
  ⟨⟨blk_far h.b0 (p := ⟨C, j, none⟩) (by show w.heap.size ≠ C; have := h.lt; omega) u, Kd.R_set h.hr hk (by decide) j u, h.below.setCell (p := ⟨C, j, none⟩) (by show w.heap.size ≤ C; have := h.lt; omega) u⟩, h.lt, blk_far h.bs (p := ⟨C, j, none⟩) (by show B ≠ C; omega) u⟩
theorem RkQ.set4 {w W : World} {B C : Nat} {t0 t1 : Int} {v : Value} {xs : List S29} {s1 : Int} {s2 : Bool} {s3 s4 : ByteArray} {c0 c1 c2 c3 : Value} (h : RkQ w W B t0 t1 v xs s1 s2 s3 s4) (hk : W.heap[C]? = some (.cells #[c0, c1, c2, c3] 31 (0, 0))) (hC : B < C) (x y z u : Value) :
    RkQ w ((((W.setCell ⟨C, 0, none⟩ x).setCell ⟨C, 1, none⟩ y).setCell ⟨C, 2, none⟩ z).setCell ⟨C, 3, none⟩ u) B t0 t1 v xs s1 s2 s3 s4 :=
  (((h.set1 hk hC 0 x).set1 (blk_set hk 0 x) hC 1 y).set1 (blk_set (blk_set hk 0 x) 1 y) hC 2 z).set1 (blk_set (blk_set (blk_set hk 0 x) 1 y) 2 z) hC 3 u
structure RkZ (w W : World) (B B14 B16 : Nat) (t0 t1 : Int) (v : Value) (xs : List S29) (s1 : Int) (s2 : Bool) (s3 s4 : ByteArray) : Prop where
  q : RkQ w W B t0 t1 v xs s1 s2 s3 s4
  k14 : W.heap[B14]? = some (.cells #[.int .i64 s1, .bool s2, .string s3, .string s4] 31 (0, 0))
  k16 : W.heap[B16]? = some (.cells #[.int .i64 s1, .bool s2, .string s3, .string s4] 31 (0, 0))
theorem RkZ.next {w W W' : World} {B B14 B16 : Nat} {t0 t1 : Int} {v : Value} {xs : List S29} {s1 : Int} {s2 : Bool} {s3 s4 : ByteArray} (h : RkZ w W B B14 B16 t0 t1 v xs s1 s2 s3 s4) (hb : Below W.heap.size W W') : RkZ w W' B B14 B16 t0 t1 v xs s1 s2 s3 s4 := ⟨h.q.next hb, blk_below h.k14 hb, blk_below h.k16 hb⟩
theorem RkZ.held {w W : World} {B B14 B16 : Nat} {t0 t1 : Int} {v : Value} {xs : List S29} {s1 : Int} {s2 : Bool} {s3 s4 : ByteArray} (h : RkZ w W B B14 B16 t0 t1 v xs s1 s2 s3 s4) :
    (W.cell? ⟨w.heap.size, 0, none⟩ = some (.int .i64 t0) ∧ W.cell? ⟨w.heap.size, 1, none⟩ = some (.int .i64 t1)) ∧ (W.cell? ⟨B, 0, none⟩ = some (.int .i64 s1) ∧ W.cell? ⟨B, 1, none⟩ = some (.bool s2) ∧ W.cell? ⟨B, 2, none⟩ = some (.string s3) ∧ W.cell? ⟨B, 3, none⟩ = some (.string s4)) ∧ (W.cell? ⟨B14, 0, none⟩ = some (.int .i64 s1) ∧ W.cell? ⟨B14, 1, none⟩ = some (.bool s2) ∧ W.cell? ⟨B14, 2, none⟩ = some (.string s3) ∧ W.cell? ⟨B14, 3, none⟩ = some (.string s4)) ∧ (W.cell? ⟨B16, 0, none⟩ = some (.int .i64 s1) ∧ W.cell? ⟨B16, 1, none⟩ = some (.bool s2) ∧ W.cell? ⟨B16, 2, none⟩ = some (.string s3) ∧ W.cell? ⟨B16, 3, none⟩ = some (.string s4)) :=
  ⟨h.q.ty, h.q.cells, (cells4 h.k14).1, (cells4 h.k16).1⟩
attribute [local go_sem high] eqA29 eqA31
set_option maxHeartbeats 8000000 in
set_option maxRecDepth 100000 in
theorem marquetrylaw22_RangesParts.calls (k : Nat) (a0_0 : Int) (a0_1 : Int) (A1 : Option Addr) (c1 : Nat) (l1 : List (S29)) (a2 : Int) (r : Bool) (w : World) (hr1 : Kd.C k29 w A1 l1.length l1) (hc1 : l1.length ≤ c1) (h : marquetrylaw22_RangesParts.f k a0_0 a0_1 l1 a2 = some r) :
    Calls Try.prog 9 #[.agg #[.int .i64 a0_0, .int .i64 a0_1], .slice A1 l1.length c1, .int .i64 a2] w fun e w' => e = .returned (.bool r) ∧ Below w.heap.size w w' := by
  unfold marquetrylaw22_RangesParts.f at h
  have hB0 : Below w.heap.size w (w.alloc (.cells #[.int .i64 a0_0, .int .i64 a0_1] 24)) := below_alloc (Below.refl _ _) _
  by_cases hlen : l1.length > 100
  · rw [if_pos hlen] at h
    obtain rfl := Option.some.inj h
    have hlb : decide ((l1.length : Int) > 100) = true := decide_eq_true (by omega)
    clear hlen
    go_enter Try.func9, Try.ntmps9
    go_wp2_with fail
    refine (marquetrylaw22_works.calls true _ rfl).mono ?_
    rintro e wz ⟨rfl, hBz⟩
    have hbz := below_step hB0 hBz
    go_wp2_with fail
    go_ret
    exact ⟨rfl, hbz⟩
  rw [if_neg hlen] at h
  have hlb : decide ((l1.length : Int) > 100) = false := decide_eq_false (by omega)
  obtain ⟨n, hn, h1⟩ := Option.bind_eq_some_iff.mp h
  clear h
  have HN := Lib.hid hn
  have hlen2 : l1.length ≤ 100 := by omega
  have HL := Lib.hid hlen2
  clear hn hlen hlen2
  by_cases hbig : n > 10000
  · rw [if_pos hbig] at h1
    obtain rfl := Option.some.inj h1
    have hnb : decide (n > 10000) = true := decide_eq_true hbig
    clear hbig
    go_enter Try.func9, Try.ntmps9
    go_wp2_with fail
    refine (marquetrylaw22_bytes.calls k A1 c1 l1 n _ (Kd.C_alloc hr1 _) hc1 HN.out).mono ?_
    rintro e w1 ⟨rfl, hD1⟩
    have hb1 := below_step hB0 hD1.below
    go_wp2_with fail
    refine (marquetrylaw22_works.calls true _ rfl).mono ?_
    rintro e wz ⟨rfl, hBz⟩
    have hbz := below_step hb1 hBz
    go_wp2_with fail
    go_ret
    exact ⟨rfl, hbz⟩
  rw [if_neg hbig] at h1
  have hnb : decide (n > 10000) = false := decide_eq_false hbig
  clear hbig
  by_cases hc0 : a2 < 0
  · rw [if_pos hc0] at h1
    obtain rfl := Option.some.inj h1
    have hcb : decide (a2 < 0) = true := decide_eq_true hc0
    clear hc0
    go_enter Try.func9, Try.ntmps9
    go_wp2_with fail
    refine (marquetrylaw22_bytes.calls k A1 c1 l1 n _ (Kd.C_alloc hr1 _) hc1 HN.out).mono ?_
    rintro e w1 ⟨rfl, hD1⟩
    have hb1 := below_step hB0 hD1.below
    go_wp2_with fail
    refine (marquetrylaw22_works.calls true _ rfl).mono ?_
    rintro e wz ⟨rfl, hBz⟩
    have hbz := below_step hb1 hBz
    go_wp2_with fail
    go_ret
    exact ⟨rfl, hbz⟩
  rw [if_neg hc0] at h1
  have hcb : decide (a2 < 0) = false := decide_eq_false hc0
  by_cases hcl : a2 > (l1.length : Int)
  · rw [if_pos hcl] at h1
    obtain rfl := Option.some.inj h1
    have hcc : decide (a2 > (l1.length : Int)) = true := decide_eq_true hcl
    clear hc0 hcl
    go_enter Try.func9, Try.ntmps9
    go_wp2_with fail
    refine (marquetrylaw22_bytes.calls k A1 c1 l1 n _ (Kd.C_alloc hr1 _) hc1 HN.out).mono ?_
    rintro e w1 ⟨rfl, hD1⟩
    have hb1 := below_step hB0 hD1.below
    go_wp2_with fail
    refine (marquetrylaw22_works.calls true _ rfl).mono ?_
    rintro e wz ⟨rfl, hBz⟩
    have hbz := below_step hb1 hBz
    go_wp2_with fail
    go_ret
    exact ⟨rfl, hbz⟩
  rw [if_neg hcl] at h1
  have hcc : decide (a2 > (l1.length : Int)) = false := decide_eq_false hcl
  have hcutL : 0 ≤ a2 ∧ a2 ≤ (l1.length : Int) := by omega
  have HCUT := Lib.hid hcutL
  clear hc0 hcl hcutL
  go_enter Try.func9, Try.ntmps9
  go_wp2_with fail
  refine (marquetrylaw22_bytes.calls k A1 c1 l1 n _ (Kd.C_alloc hr1 _) hc1 HN.out).mono ?_
  rintro e w1 ⟨rfl, hD1⟩
  have hb1 := below_step hB0 hD1.below
  have hk0 : w1.cell? ⟨w.heap.size, 0, none⟩ = some (.int .i64 a0_0) := (blk_cell (blk_below (blk_new w (.cells #[.int .i64 a0_0, .int .i64 a0_1] 24)) hD1.below) 0).trans rfl
  have hk1 : w1.cell? ⟨w.heap.size, 1, none⟩ = some (.int .i64 a0_1) := (blk_cell (blk_below (blk_new w (.cells #[.int .i64 a0_0, .int .i64 a0_1] 24)) hD1.below) 1).trans rfl
  go_wp2_with fail
  refine (datum_Check.calls a0_0 a0_1 _ _ rfl).mono ?_
  rintro e w2 ⟨rfl, hB2⟩
  have hb2 := below_step hb1 hB2
  go_wp2_with fail
  refine (marquetrylaw22_num.calls (datum_Check.v a0_0 a0_1) _ _ rfl).mono ?_
  rintro e w3 ⟨rfl, hD3⟩
  have hb3 := below_step hb2 hD3.below
  have hP0 : RkP w w3 a0_0 a0_1 (.slice none 0 0) [] := ⟨blk_below (blk_below (blk_below (blk_new w (.cells #[.int .i64 a0_0, .int .i64 a0_1] 24)) hD1.below) hB2) hD3.below, Kd.R_nil _ _ _ _ _, hb3⟩
  clear hk0 hk1 hB2 hD1 hb1 hb2 hB0
  by_cases hv : datum_Check.v a0_0 a0_1 ≠ 0
  · rw [if_pos hv] at h1
    obtain rfl := Option.some.inj h1
    have hvb : (datum_Check.v a0_0 a0_1 != 0) = true := bne_iff_ne.mpr hv
    clear hv
    go_wp2_with fail
    refine (marquetrylaw22_works.calls true _ rfl).mono ?_
    rintro e wz ⟨rfl, hBz⟩
    have hbz := below_step hb3 hBz
    go_wp2_with fail
    go_ret
    exact ⟨rfl, hbz⟩
  rw [if_neg hv] at h1
  have hvb : (datum_Check.v a0_0 a0_1 != 0) = false := bne_eq_false_iff_eq.mpr (Decidable.not_not.mp hv)
  clear hv hb3 hD3
  obtain ⟨ok, hck, h2⟩ := Option.bind_eq_some_iff.mp h1
  clear h1
  have HCK := Lib.hid hck
  have H2 := Lib.hid h2
  clear hck h2
  have hwl : IntKind.i64.wrap ((l1.length : Int) - 1) = (l1.length : Int) - 1 := by rw [IntKind.wrap_i64]; have := HL.out; omega
  go_wp2_with fail
  go_loopw [7, 8] (fun v7 v8 wr => ∃ (u7 : Value) (m : Nat) (i : Int) (xs : List S29), u7 = v7 ∧ m ≤ l1.length ∧ v8 = .int .i64 i ∧ i = (m : Int) - 1 ∧ Hid (xs = (l1.drop m).reverse) ∧ Hid (marquetrylaw22_RangesParts.chk a0_0 a0_1 (l1.take m).reverse = some ok) ∧ RkP w wr a0_0 a0_1 u7 xs) (fun _ v8 _ => (intOf v8 + 1).toNat)
  case atStart => exact ⟨_, l1.length, (l1.length : Int) - 1, [], rfl, Nat.le_refl _, rfl, rfl, Lib.hid (by simp), Lib.hid (by rw [List.take_length]; exact HCK.out), hP0⟩
  case round =>
    clear hP0 HCK hwl
    obtain ⟨u7, m, i, xs, rfl, hm, rfl, hi, hx, hc, hp⟩ := hrel
    cases m with
    | succ j =>
      obtain rfl : i = (j : Int) := by omega
      have hlt : j < l1.length := hm
      obtain ⟨ad, e1, _, _, _⟩ := at_T29 (Kd.C_below hr1 hp.below) (j : Int) (by omega) (by omega)
      subst e1
      have hc2 := hc.out
      rw [rev_step hlt] at hc2
      obtain ⟨o, ho, hcase⟩ := chk_step hc2
      have HO := Lib.hid ho
      have HCASE := Lib.hid hcase
      clear hc2 ho hcase hc hi
      have hge : decide ((j : Int) ≥ 0) = true := decide_eq_true (by omega)
      have hj0 : (0 : Int) ≤ (j : Int) := by omega
      have hj1 : (j : Int) < (l1.length : Int) := by omega
      have hwj : IntKind.i64.wrap ((j : Int) - 1) = (j : Int) - 1 := by rw [IntKind.wrap_i64]; have := HL.out; omega
      go_wp2_with fail
      refine wp_region_held_drew (S := (fun W => (W.cell? ⟨w.heap.size, 0, none⟩ = some (.int .i64 a0_0) ∧ W.cell? ⟨w.heap.size, 1, none⟩ = some (.int .i64 a0_1)) ∧ (W.cell? (ad.add (j * 3)) = some (.int .i64 l1[j].f0) ∧ W.cell? ⟨((ad.add (j * 3))).block, ((ad.add (j * 3))).off + 1, none⟩ = some (.int .i64 l1[j].f1) ∧ W.cell? ⟨((ad.add (j * 3))).block, ((ad.add (j * 3))).off + 2, none⟩ = some (.string l1[j].f2)))) (by kernel_rfl) (hp.drew.held hr1 hlt) (fun hHeld => ?_)
      refine tkY 0 (some 50) rfl rfl (by kernel_rfl) (by kernel_rfl) (by kernel_rfl) (fun _ _ _ h => h) (by rfl) (v := ?tkva0) ?tkya0 (by assumption) rfl ?tkra0
      case tkya0 =>
        intro W' hSw
        try dsimp only at hSw
        go_simp
        first | done | with_reducible rfl
      simp only [Act.put, List.setIfInBounds_toArray, List.set_cons_zero, List.set_cons_succ]
      refine tkY 1 (some 51) rfl rfl (by kernel_rfl) (by kernel_rfl) (by kernel_rfl) (fun _ _ _ h => h) (by rfl) (v := ?tkva1) ?tkya1 (by assumption) rfl ?tkra1
      case tkya1 =>
        intro W' hSw
        try dsimp only at hSw
        go_simp
        first | done | with_reducible rfl
      simp only [Act.put, List.setIfInBounds_toArray, List.set_cons_zero, List.set_cons_succ]
      refine tkY 2 (some 52) rfl rfl (by kernel_rfl) (by kernel_rfl) (by kernel_rfl) (fun _ _ _ h => h) (by rfl) (v := ?tkva2) ?tkya2 (by assumption) rfl ?tkra2
      case tkya2 =>
        intro W' hSw
        try dsimp only at hSw
        go_simp
        first | done | with_reducible rfl
      simp only [Act.put, List.setIfInBounds_toArray, List.set_cons_zero, List.set_cons_succ]
      refine tkY 3 (some 53) rfl rfl (by kernel_rfl) (by kernel_rfl) (by kernel_rfl) (fun _ _ _ h => h) (by rfl) (v := ?tkva3) ?tkya3 (by assumption) rfl ?tkra3
      case tkya3 =>
        intro W' hSw
        try dsimp only at hSw
        go_simp
        first | done | with_reducible rfl
      simp only [Act.put, List.setIfInBounds_toArray, List.set_cons_zero, List.set_cons_succ]
      refine tkY 4 (some 54) rfl rfl (by kernel_rfl) (by kernel_rfl) (by kernel_rfl) (fun _ _ _ h => h) (by rfl) (v := ?tkva4) ?tkya4 (by assumption) rfl ?tkra4
      case tkya4 =>
        intro W' hSw
        try dsimp only at hSw
        go_simp
        first | done | with_reducible rfl
      simp only [Act.put, List.setIfInBounds_toArray, List.set_cons_zero, List.set_cons_succ]
      refine wpAnyH_ready (rs := [5]) (by kernel_rfl) (by simp) (AllReadyH.cons (at_drop rfl) (fun KC hKC => ?_) AllReadyH.nil)
      go_simp
      (go_at_call 25; refine (datum_Of.calls l1[j].f0 l1[j].f1 l1[j].f2 a0_0 a0_1 o _ HO.out).mono ?_; rintro e w5 ⟨rfl, hB5⟩; have hp2 := hp.drew.next hB5)
      refine hKC.out _ _ (hp2.held hr1 hlt) (fun hHeld => ?_)
      clear hKC KC
      try simp only [Act.put, List.setIfInBounds_toArray, List.set_cons_zero, List.set_cons_succ]
      refine tkY 6 (some 56) rfl rfl (by kernel_rfl) (by kernel_rfl) (by kernel_rfl) (fun _ _ _ h => h) (by rfl) (v := ?tkva6) ?tkya6 (by assumption) rfl ?tkra6
      case tkya6 =>
        intro W' hSw
        try dsimp only at hSw
        go_simp
        first | done | with_reducible rfl
      simp only [Act.put, List.setIfInBounds_toArray, List.set_cons_zero, List.set_cons_succ]
      refine wpAnyH_done (by kernel_rfl) ?_ _
      rcases HCASE.out with ⟨rfl, hok⟩ | ⟨rfl, u, hu, hd, hc3⟩
      · have hr : r = true := by
          have q := H2.out
          rw [hok, if_pos rfl] at q
          exact (Option.some.inj q).symm
        subst hr
        clear HCASE hok
        have hbw := hp2.below
        go_wp2_with fail
        refine (marquetrylaw22_works.calls true _ rfl).mono ?_
        rintro e wz ⟨rfl, hBz⟩
        have hbz := below_step hbw hBz
        go_wp2_with fail
        go_ret
        exact ⟨rfl, hbz⟩
      have HU := Lib.hid hu
      have HD := Lib.hid hd
      have HC3 := Lib.hid hc3
      clear HCASE hu hd hc3 HO hp hB5 hHeld
      go_upto_region 9 with (fail)
      go_cut [9, 10] (fun v9 v10 wc => ∃ B, v9 = .pointer (some ⟨B, 0, none⟩) ∧ v10 = .int .i64 0 ∧ RkN w wc B a0_0 a0_1 u7 xs (.int .i64 l1[j].f0) (.int .i64 l1[j].f1) (.string l1[j].f2))
      case first =>
        refine wp_region_held_drew (S := (fun W => (W.cell? ⟨w.heap.size, 0, none⟩ = some (.int .i64 a0_0) ∧ W.cell? ⟨w.heap.size, 1, none⟩ = some (.int .i64 a0_1)) ∧ (W.cell? (ad.add (j * 3)) = some (.int .i64 l1[j].f0) ∧ W.cell? ⟨((ad.add (j * 3))).block, ((ad.add (j * 3))).off + 1, none⟩ = some (.int .i64 l1[j].f1) ∧ W.cell? ⟨((ad.add (j * 3))).block, ((ad.add (j * 3))).off + 2, none⟩ = some (.string l1[j].f2)))) (by kernel_rfl) (hp2.drew.held hr1 hlt) (fun hHeld => ?_)
        refine tkY 0 (some 59) rfl rfl (by kernel_rfl) (by kernel_rfl) (by kernel_rfl) (fun _ _ _ h => h) (by rfl) (v := ?tkvb0) ?tkyb0 (by assumption) rfl ?tkrb0
        case tkyb0 =>
          intro W' hSw
          try dsimp only at hSw
          go_simp
          first | done | with_reducible rfl
        simp only [Act.put, List.setIfInBounds_toArray, List.set_cons_zero, List.set_cons_succ]
        refine tkY 1 (some 60) rfl rfl (by kernel_rfl) (by kernel_rfl) (by kernel_rfl) (fun _ _ _ h => h) (by rfl) (v := ?tkvb1) ?tkyb1 (by assumption) rfl ?tkrb1
        case tkyb1 =>
          intro W' hSw
          try dsimp only at hSw
          go_simp
          first | done | with_reducible rfl
        simp only [Act.put, List.setIfInBounds_toArray, List.set_cons_zero, List.set_cons_succ]
        refine tkY 2 (some 61) rfl rfl (by kernel_rfl) (by kernel_rfl) (by kernel_rfl) (fun _ _ _ h => h) (by rfl) (v := ?tkvb2) ?tkyb2 (by assumption) rfl ?tkrb2
        case tkyb2 =>
          intro W' hSw
          try dsimp only at hSw
          go_simp
          first | done | with_reducible rfl
        simp only [Act.put, List.setIfInBounds_toArray, List.set_cons_zero, List.set_cons_succ]
        refine tkY 3 (some 62) rfl rfl (by kernel_rfl) (by kernel_rfl) (by kernel_rfl) (fun _ _ _ h => h) (by rfl) (v := ?tkvb3) ?tkyb3 (by assumption) rfl ?tkrb3
        case tkyb3 =>
          intro W' hSw
          try dsimp only at hSw
          go_simp
          first | done | with_reducible rfl
        simp only [Act.put, List.setIfInBounds_toArray, List.set_cons_zero, List.set_cons_succ]
        refine tkY 4 (some 63) rfl rfl (by kernel_rfl) (by kernel_rfl) (by kernel_rfl) (fun _ _ _ h => h) (by rfl) (v := ?tkvb4) ?tkyb4 (by assumption) rfl ?tkrb4
        case tkyb4 =>
          intro W' hSw
          try dsimp only at hSw
          go_simp
          first | done | with_reducible rfl
        simp only [Act.put, List.setIfInBounds_toArray, List.set_cons_zero, List.set_cons_succ]
        refine wpAnyH_ready (rs := [5, 10]) (by kernel_rfl) (by simp) ?_
        refine AllReadyH.cons (at_drop rfl) (fun KC hKC => ?_) ?_
        · go_simp
          (go_at_call 20; refine (ranges_Lay.calls 10 l1[j].f0 l1[j].f1 l1[j].f2 u _ HU.out).mono ?_; rintro e q2w ⟨rfl, q2B⟩; have q2 := hp2.drew.next q2B)
          refine hKC.out _ _ (q2.held hr1 hlt) (fun hHeld => ?_)
          clear hKC KC
          try simp only [Act.put, List.setIfInBounds_toArray, List.set_cons_zero, List.set_cons_succ]
          refine wpAnyH_ready (rs := [6, 10]) (by kernel_rfl) (by simp) ?_
          refine AllReadyH.cons (at_drop rfl) (fun KC hKC => ?_) ?_
          · go_simp
            (go_at_call 18; refine (ranges_Read.calls a0_0 a0_1 u l1[j].f0 l1[j].f1 l1[j].f2 0 _ HD.out).mono ?_; rintro e q4w ⟨rfl, q4B⟩; have q4 := q2.next q4B)
            refine hKC.out _ _ (q4.held hr1 hlt) (fun hHeld => ?_)
            clear hKC KC
            try simp only [Act.put, List.setIfInBounds_toArray, List.set_cons_zero, List.set_cons_succ]
            refine tkY 7 (some 58) rfl rfl (by kernel_rfl) (by kernel_rfl) (by kernel_rfl) (fun _ _ _ h => h) (by rfl) (v := ?tkvq47) ?tkyq47 (by assumption) rfl ?tkrq47
            case tkyq47 =>
              intro W' hSw
              try dsimp only at hSw
              go_simp
              first | done | with_reducible rfl
            simp only [Act.put, List.setIfInBounds_toArray, List.set_cons_zero, List.set_cons_succ]
            refine tkY 8 (some 66) rfl rfl (by kernel_rfl) (by kernel_rfl) (by kernel_rfl) (fun _ _ _ h => h) (by rfl) (v := ?tkvq48) ?tkyq48 (by assumption) rfl ?tkrq48
            case tkyq48 =>
              intro W' hSw
              try dsimp only at hSw
              go_simp
              first | done | with_reducible rfl
            simp only [Act.put, List.setIfInBounds_toArray, List.set_cons_zero, List.set_cons_succ]
            refine tkY 9 (some 67) rfl rfl (by kernel_rfl) (by kernel_rfl) (by kernel_rfl) (fun _ _ _ h => h) (by rfl) (v := ?tkvq49) ?tkyq49 (by assumption) rfl ?tkrq49
            case tkyq49 =>
              intro W' hSw
              try dsimp only at hSw
              go_simp
              first | done | with_reducible rfl
            simp only [Act.put, List.setIfInBounds_toArray, List.set_cons_zero, List.set_cons_succ]
            refine wpAnyH_ready (rs := [10]) (by kernel_rfl) (by simp) ?_
            refine AllReadyH.cons (at_drop rfl) (fun KC hKC => ?_) ?_
            · go_simp
              have q6 := RkN.start q4 (.int .i64 0) (.int .i64 0) (.string ⟨#[]⟩)
              refine hKC.out _ _ (q6.held hr1 hlt) (fun hHeld => ?_)
              clear hKC KC
              try simp only [Act.put, List.setIfInBounds_toArray, List.set_cons_zero, List.set_cons_succ]
              obtain ⟨⟨g0, g1, g2⟩, f0, f1, f2⟩ := q6.cells
              refine wpAnyH_ready (rs := [11]) (by kernel_rfl) (by simp) (AllReadyH.cons (at_drop rfl) (fun KC hKC => ?_) AllReadyH.nil)
              go_simp
              refine hKC.out _ _ ((RkN.start q4 (.int .i64 l1[j].f0) (.int .i64 l1[j].f1) (.string l1[j].f2)).held hr1 hlt) (fun hHeld => ?_)
              clear hKC KC
              try simp only [Act.put, List.setIfInBounds_toArray, List.set_cons_zero, List.set_cons_succ]
              refine wpAnyH_ready (rs := [12]) (by kernel_rfl) (by simp) (AllReadyH.cons (at_drop rfl) (fun KC hKC => ?_) AllReadyH.nil)
              go_simp
              refine hKC.out _ _ ((RkN.start q4 (.int .i64 l1[j].f0) (.int .i64 l1[j].f1) (.string l1[j].f2)).held hr1 hlt) (fun hHeld => ?_)
              clear hKC KC
              try simp only [Act.put, List.setIfInBounds_toArray, List.set_cons_zero, List.set_cons_succ]
              refine wpAnyH_done (by kernel_rfl) ?_ _
              go_wp2_with fail
              go_meet
              exact ⟨_, rfl, rfl, (RkN.start q4 _ _ _)⟩
            exact AllReadyH.nil
          refine AllReadyH.cons (at_drop rfl) (fun KC hKC => ?_) ?_
          · go_simp
            have q8 := RkN.start q2 (.int .i64 0) (.int .i64 0) (.string ⟨#[]⟩)
            refine hKC.out _ _ (q8.held hr1 hlt) (fun hHeld => ?_)
            clear hKC KC
            try simp only [Act.put, List.setIfInBounds_toArray, List.set_cons_zero, List.set_cons_succ]
            refine wpAnyH_ready (rs := [6]) (by kernel_rfl) (by simp) ?_
            refine AllReadyH.cons (at_drop rfl) (fun KC hKC => ?_) ?_
            · go_simp
              (go_at_call 18; refine (ranges_Read.calls a0_0 a0_1 u l1[j].f0 l1[j].f1 l1[j].f2 0 _ HD.out).mono ?_; rintro e q10w ⟨rfl, q10B⟩; have q10 := q8.next q10B)
              refine hKC.out _ _ (q10.held hr1 hlt) (fun hHeld => ?_)
              clear hKC KC
              try simp only [Act.put, List.setIfInBounds_toArray, List.set_cons_zero, List.set_cons_succ]
              refine tkY 7 (some 58) rfl rfl (by kernel_rfl) (by kernel_rfl) (by kernel_rfl) (fun _ _ _ h => h) (by rfl) (v := ?tkvq107) ?tkyq107 (by assumption) rfl ?tkrq107
              case tkyq107 =>
                intro W' hSw
                try dsimp only at hSw
                go_simp
                first | done | with_reducible rfl
              simp only [Act.put, List.setIfInBounds_toArray, List.set_cons_zero, List.set_cons_succ]
              refine tkY 8 (some 66) rfl rfl (by kernel_rfl) (by kernel_rfl) (by kernel_rfl) (fun _ _ _ h => h) (by rfl) (v := ?tkvq108) ?tkyq108 (by assumption) rfl ?tkrq108
              case tkyq108 =>
                intro W' hSw
                try dsimp only at hSw
                go_simp
                first | done | with_reducible rfl
              simp only [Act.put, List.setIfInBounds_toArray, List.set_cons_zero, List.set_cons_succ]
              refine tkY 9 (some 67) rfl rfl (by kernel_rfl) (by kernel_rfl) (by kernel_rfl) (fun _ _ _ h => h) (by rfl) (v := ?tkvq109) ?tkyq109 (by assumption) rfl ?tkrq109
              case tkyq109 =>
                intro W' hSw
                try dsimp only at hSw
                go_simp
                first | done | with_reducible rfl
              simp only [Act.put, List.setIfInBounds_toArray, List.set_cons_zero, List.set_cons_succ]
              obtain ⟨⟨g0, g1, g2⟩, f0, f1, f2⟩ := q10.cells
              refine wpAnyH_ready (rs := [11]) (by kernel_rfl) (by simp) (AllReadyH.cons (at_drop rfl) (fun KC hKC => ?_) AllReadyH.nil)
              go_simp
              refine hKC.out _ _ ((q10.put (.int .i64 l1[j].f0) (.int .i64 l1[j].f1) (.string l1[j].f2)).held hr1 hlt) (fun hHeld => ?_)
              clear hKC KC
              try simp only [Act.put, List.setIfInBounds_toArray, List.set_cons_zero, List.set_cons_succ]
              refine wpAnyH_ready (rs := [12]) (by kernel_rfl) (by simp) (AllReadyH.cons (at_drop rfl) (fun KC hKC => ?_) AllReadyH.nil)
              go_simp
              refine hKC.out _ _ ((q10.put (.int .i64 l1[j].f0) (.int .i64 l1[j].f1) (.string l1[j].f2)).held hr1 hlt) (fun hHeld => ?_)
              clear hKC KC
              try simp only [Act.put, List.setIfInBounds_toArray, List.set_cons_zero, List.set_cons_succ]
              refine wpAnyH_done (by kernel_rfl) ?_ _
              go_wp2_with fail
              go_meet
              exact ⟨_, rfl, rfl, (q10.put _ _ _)⟩
            exact AllReadyH.nil
          exact AllReadyH.nil
        refine AllReadyH.cons (at_drop rfl) (fun KC hKC => ?_) ?_
        · go_simp
          have q12 : RkN w _ w5.heap.size a0_0 a0_1 u7 xs (.int .i64 0) (.int .i64 0) (.string ⟨#[]⟩) := RkN.start hp2.drew (.int .i64 0) (.int .i64 0) (.string ⟨#[]⟩)
          refine hKC.out _ _ (q12.held hr1 hlt) (fun hHeld => ?_)
          clear hKC KC
          try simp only [Act.put, List.setIfInBounds_toArray, List.set_cons_zero, List.set_cons_succ]
          refine wpAnyH_ready (rs := [5]) (by kernel_rfl) (by simp) ?_
          refine AllReadyH.cons (at_drop rfl) (fun KC hKC => ?_) ?_
          · go_simp
            (go_at_call 20; refine (ranges_Lay.calls 10 l1[j].f0 l1[j].f1 l1[j].f2 u _ HU.out).mono ?_; rintro e q14w ⟨rfl, q14B⟩; have q14 := q12.next q14B)
            refine hKC.out _ _ (q14.held hr1 hlt) (fun hHeld => ?_)
            clear hKC KC
            try simp only [Act.put, List.setIfInBounds_toArray, List.set_cons_zero, List.set_cons_succ]
            refine wpAnyH_ready (rs := [6]) (by kernel_rfl) (by simp) ?_
            refine AllReadyH.cons (at_drop rfl) (fun KC hKC => ?_) ?_
            · go_simp
              (go_at_call 18; refine (ranges_Read.calls a0_0 a0_1 u l1[j].f0 l1[j].f1 l1[j].f2 0 _ HD.out).mono ?_; rintro e q16w ⟨rfl, q16B⟩; have q16 := q14.next q16B)
              refine hKC.out _ _ (q16.held hr1 hlt) (fun hHeld => ?_)
              clear hKC KC
              try simp only [Act.put, List.setIfInBounds_toArray, List.set_cons_zero, List.set_cons_succ]
              refine tkY 7 (some 58) rfl rfl (by kernel_rfl) (by kernel_rfl) (by kernel_rfl) (fun _ _ _ h => h) (by rfl) (v := ?tkvq167) ?tkyq167 (by assumption) rfl ?tkrq167
              case tkyq167 =>
                intro W' hSw
                try dsimp only at hSw
                go_simp
                first | done | with_reducible rfl
              simp only [Act.put, List.setIfInBounds_toArray, List.set_cons_zero, List.set_cons_succ]
              refine tkY 8 (some 66) rfl rfl (by kernel_rfl) (by kernel_rfl) (by kernel_rfl) (fun _ _ _ h => h) (by rfl) (v := ?tkvq168) ?tkyq168 (by assumption) rfl ?tkrq168
              case tkyq168 =>
                intro W' hSw
                try dsimp only at hSw
                go_simp
                first | done | with_reducible rfl
              simp only [Act.put, List.setIfInBounds_toArray, List.set_cons_zero, List.set_cons_succ]
              refine tkY 9 (some 67) rfl rfl (by kernel_rfl) (by kernel_rfl) (by kernel_rfl) (fun _ _ _ h => h) (by rfl) (v := ?tkvq169) ?tkyq169 (by assumption) rfl ?tkrq169
              case tkyq169 =>
                intro W' hSw
                try dsimp only at hSw
                go_simp
                first | done | with_reducible rfl
              simp only [Act.put, List.setIfInBounds_toArray, List.set_cons_zero, List.set_cons_succ]
              obtain ⟨⟨g0, g1, g2⟩, f0, f1, f2⟩ := q16.cells
              refine wpAnyH_ready (rs := [11]) (by kernel_rfl) (by simp) (AllReadyH.cons (at_drop rfl) (fun KC hKC => ?_) AllReadyH.nil)
              go_simp
              refine hKC.out _ _ ((q16.put (.int .i64 l1[j].f0) (.int .i64 l1[j].f1) (.string l1[j].f2)).held hr1 hlt) (fun hHeld => ?_)
              clear hKC KC
              try simp only [Act.put, List.setIfInBounds_toArray, List.set_cons_zero, List.set_cons_succ]
              refine wpAnyH_ready (rs := [12]) (by kernel_rfl) (by simp) (AllReadyH.cons (at_drop rfl) (fun KC hKC => ?_) AllReadyH.nil)
              go_simp
              refine hKC.out _ _ ((q16.put (.int .i64 l1[j].f0) (.int .i64 l1[j].f1) (.string l1[j].f2)).held hr1 hlt) (fun hHeld => ?_)
              clear hKC KC
              try simp only [Act.put, List.setIfInBounds_toArray, List.set_cons_zero, List.set_cons_succ]
              refine wpAnyH_done (by kernel_rfl) ?_ _
              go_wp2_with fail
              go_meet
              exact ⟨_, rfl, rfl, (q16.put _ _ _)⟩
            exact AllReadyH.nil
          exact AllReadyH.nil
        exact AllReadyH.nil
      case rest =>
        clear hp2
        obtain ⟨B9, rfl, rfl, hN⟩ := hcut
        go_wp2_with fail
        have hND := hN.next (below_drew (Below.refl _ _))
        refine wp_region_held_drew (S := (fun W => (W.cell? (ad.add (j * 3)) = some (.int .i64 l1[j].f0) ∧ W.cell? ⟨((ad.add (j * 3))).block, ((ad.add (j * 3))).off + 1, none⟩ = some (.int .i64 l1[j].f1) ∧ W.cell? ⟨((ad.add (j * 3))).block, ((ad.add (j * 3))).off + 2, none⟩ = some (.string l1[j].f2)) ∧ (W.cell? ⟨B9, 0, none⟩ = some (.int .i64 l1[j].f0) ∧ W.cell? ⟨B9, 1, none⟩ = some (.int .i64 l1[j].f1) ∧ W.cell? ⟨B9, 2, none⟩ = some (.string l1[j].f2)))) (by kernel_rfl) ⟨(hND.held hr1 hlt).2, hND.cells.1⟩ (fun hHeld => ?_)
        refine tkY 0 (some 68) rfl rfl (by kernel_rfl) (by kernel_rfl) (by kernel_rfl) (fun _ _ _ h => h) (by rfl) (v := ?tkve0) ?tkye0 (by assumption) rfl ?tkre0
        case tkye0 =>
          intro W' hSw
          try dsimp only at hSw
          go_simp
          first | done | with_reducible rfl
        simp only [Act.put, List.setIfInBounds_toArray, List.set_cons_zero, List.set_cons_succ]
        refine tkY 1 (some 69) rfl rfl (by kernel_rfl) (by kernel_rfl) (by kernel_rfl) (fun _ _ _ h => h) (by rfl) (v := ?tkve1) ?tkye1 (by assumption) rfl ?tkre1
        case tkye1 =>
          intro W' hSw
          try dsimp only at hSw
          go_simp
          first | done | with_reducible rfl
        simp only [Act.put, List.setIfInBounds_toArray, List.set_cons_zero, List.set_cons_succ]
        refine tkY 2 (some 70) rfl rfl (by kernel_rfl) (by kernel_rfl) (by kernel_rfl) (fun _ _ _ h => h) (by rfl) (v := ?tkve2) ?tkye2 (by assumption) rfl ?tkre2
        case tkye2 =>
          intro W' hSw
          try dsimp only at hSw
          go_simp
          first | done | with_reducible rfl
        simp only [Act.put, List.setIfInBounds_toArray, List.set_cons_zero, List.set_cons_succ]
        refine tkY 3 (some 71) rfl rfl (by kernel_rfl) (by kernel_rfl) (by kernel_rfl) (fun _ _ _ h => h) (by rfl) (v := ?tkve3) ?tkye3 (by assumption) rfl ?tkre3
        case tkye3 =>
          intro W' hSw
          try dsimp only at hSw
          go_simp
          first | done | with_reducible rfl
        simp only [Act.put, List.setIfInBounds_toArray, List.set_cons_zero, List.set_cons_succ]
        refine tkY 4 (some 72) rfl rfl (by kernel_rfl) (by kernel_rfl) (by kernel_rfl) (fun _ _ _ h => h) (by rfl) (v := ?tkve4) ?tkye4 (by assumption) rfl ?tkre4
        case tkye4 =>
          intro W' hSw
          try dsimp only at hSw
          go_simp
          first | done | with_reducible rfl
        simp only [Act.put, List.setIfInBounds_toArray, List.set_cons_zero, List.set_cons_succ]
        refine tkY 5 (some 73) rfl rfl (by kernel_rfl) (by kernel_rfl) (by kernel_rfl) (fun _ _ _ h => h) (by rfl) (v := ?tkve5) ?tkye5 (by assumption) rfl ?tkre5
        case tkye5 =>
          intro W' hSw
          try dsimp only at hSw
          go_simp
          first | done | with_reducible rfl
        simp only [Act.put, List.setIfInBounds_toArray, List.set_cons_zero, List.set_cons_succ]
        refine tkY 6 (some 74) rfl rfl (by kernel_rfl) (by kernel_rfl) (by kernel_rfl) (fun _ _ _ h => h) (by rfl) (v := ?tkve6) ?tkye6 (by assumption) rfl ?tkre6
        case tkye6 =>
          intro W' hSw
          try dsimp only at hSw
          go_simp
          first | done | with_reducible rfl
        simp only [Act.put, List.setIfInBounds_toArray, List.set_cons_zero, List.set_cons_succ]
        refine tkY 7 (some 75) rfl rfl (by kernel_rfl) (by kernel_rfl) (by kernel_rfl) (fun _ _ _ h => h) (by rfl) (v := ?tkve7) ?tkye7 (by assumption) rfl ?tkre7
        case tkye7 =>
          intro W' hSw
          try dsimp only at hSw
          go_simp
          first | done | with_reducible rfl
        simp only [Act.put, List.setIfInBounds_toArray, List.set_cons_zero, List.set_cons_succ]
        refine wpAnyH_ready (rs := [8]) (by kernel_rfl) (by simp) (AllReadyH.cons (at_drop rfl) (fun KC hKC => ?_) AllReadyH.nil)
        go_simp
        (go_at_call 15; refine (marquetrylaw22_num.calls 0 _ _ rfl).mono ?_; rintro e w8 ⟨rfl, hD8⟩; have hN2 := hND.next hD8.below)
        refine hKC.out _ _ ⟨(hN2.held hr1 hlt).2, hN2.cells.1⟩ (fun hHeld => ?_)
        clear hKC KC
        try simp only [Act.put, List.setIfInBounds_toArray, List.set_cons_zero, List.set_cons_succ]
        refine tkY 9 (some 77) rfl rfl (by kernel_rfl) (by kernel_rfl) (by kernel_rfl) (fun _ _ _ h => h) (by rfl) (v := ?tkve9) ?tkye9 (by assumption) rfl ?tkre9
        case tkye9 =>
          intro W' hSw
          try dsimp only at hSw
          go_simp
          first | done | with_reducible rfl
        simp only [Act.put, List.setIfInBounds_toArray, List.set_cons_zero, List.set_cons_succ]
        refine tkY 10 (some 78) rfl rfl (by kernel_rfl) (by kernel_rfl) (by kernel_rfl) (fun _ _ _ h => h) (by rfl) (v := ?tkve10) ?tkye10 (by assumption) rfl ?tkre10
        case tkye10 =>
          intro W' hSw
          try dsimp only at hSw
          go_simp
          first | done | with_reducible rfl
        simp only [Act.put, List.setIfInBounds_toArray, List.set_cons_zero, List.set_cons_succ]
        refine wpAnyH_done (by kernel_rfl) ?_ _
        obtain ⟨hy0, hy1, hy2⟩ := (hN2.held hr1 hlt).2
        go_wp2_with (first | ((with_reducible refine gate_builtin (b := .append) (xs := #[.tmp 79, .tmp 84]) rfl ?_); at_builtin; refine Kd.R_append k29 (w0 := w) w.heap.size rfl (.tmp 79) (.tmp 84) 25 29 (.agg #[(.int .i64 0), (.int .i64 0), (.string ⟨#[]⟩)]) 32 rfl Try.underlying25 info29 rfl (by decide) (by omega) u7 xs l1[j] [.int .i64 l1[j].f0, .int .i64 l1[j].f1, .string l1[j].f2] (fun _ => True) (fun _ => False) rfl rfl ?aP (fun _ hk => hk.elim) ?aF ?aO ?aB ?aS ?aL ?_; (case aP => exact (k29_mkM _ _ _ l1[j])); (case aB => exact hN2.below); (case aF => exact (fun _ _ => trivial)); (case aO => exact hN2.hr); (case aS => exact (below_size hN2.below)); (case aL => have q1 := hx.out; have q2 := HL.out; rw [q1, List.length_reverse, List.length_drop]; omega); intro v187 w9 ho hb hg hat; have hp3 : RkP w w9 a0_0 a0_1 v187 (xs ++ [l1[j]]) := ⟨blk_grown hN2.b0 hg (Kd.R_ne hN2.hr hN2.b0 (by decide)), ho, hb⟩; clear ho hb hg hat))
        go_roundw
        case rel => exact ⟨_, j, (j : Int) - 1, xs ++ [l1[j]], rfl, by omega, rfl, rfl, Lib.hid (by rw [hx.out]; exact (drop_step hlt).symm), HC3, hp3⟩
        case measure => first | (simp [intOf]; done) | (simp [intOf]; omega)
    | zero =>
      obtain rfl : i = -1 := by omega
      have hxs : xs = l1.reverse := by have q := hx.out; rw [List.drop_zero] at q; exact q
      have hok : ok = true := by have q := hc.out; rw [List.take_zero] at q; simpa [marquetrylaw22_RangesParts.chk] using q.symm
      subst hxs hok
      have hg := H2.out
      rw [if_neg (show ¬ (true = false) by decide)] at hg
      clear hi hx hc H2
      unfold marquetrylaw22_RangesParts.g at hg
      obtain ⟨⟨s1, s2, s3, s4⟩, hs, g1⟩ := Option.bind_eq_some_iff.mp hg
      clear hg
      obtain ⟨⟨x1, x2, x3, x4⟩, ha, g2⟩ := Option.bind_eq_some_iff.mp g1
      clear g1
      obtain ⟨⟨y1, y2, y3, y4⟩, hb, g3⟩ := Option.bind_eq_some_iff.mp g2
      clear g2
      obtain ⟨⟨p1, p2, p3, p4, p5⟩, hpj, g4⟩ := Option.bind_eq_some_iff.mp g3
      clear g3
      obtain ⟨⟨o1, o2, o3, o4, o5⟩, hoj, g5⟩ := Option.bind_eq_some_iff.mp g4
      clear g4
      obtain ⟨⟨r1, r2, r3, r4⟩, hrv, g6⟩ := Option.bind_eq_some_iff.mp g5
      clear g5
      simp only at g6 hpj hoj
      split at g6
      case isFalse => cases g6
      case isTrue hsame =>
      obtain ⟨⟨rfl, rfl, rfl, rfl⟩, ⟨rfl, rfl, rfl, rfl, rfl⟩, ⟨rfl, rfl, rfl, rfl, rfl⟩⟩ := hsame
      obtain rfl := Option.some.inj g6
      clear g6
      obtain ⟨hcut0, hcut1⟩ := HCUT.out
      obtain ⟨cut, rfl⟩ : ∃ c : Nat, a2 = (c : Int) := ⟨a2.toNat, by omega⟩
      have hcl : cut ≤ l1.length := by omega
      rw [Int.toNat_natCast] at ha hb
      have hlA : (l1.take cut).length = cut := by rw [List.length_take]; omega
      have hlB : (l1.drop cut).length = l1.length - cut := List.length_drop
      have HS := Lib.hid hs
      have HA := Lib.hid ha
      have HBB := Lib.hid hb
      have HPJ := Lib.hid hpj
      have HOJ := Lib.hid hoj
      have HRV := Lib.hid hrv
      have HLA := Lib.hid hlA
      have HLB := Lib.hid hlB
      clear hs ha hb hpj hoj hrv hlA hlB HCUT
      obtain ⟨hk0, hk1⟩ := hp.ty
      go_wp2_with fail
      refine (ranges_Of.calls a0_0 a0_1 A1 c1 l1 3 s1 s2 s3 s4 _ (Kd.C_below hr1 hp.below) hc1 HS.out).mono ?_
      rintro e w4 ⟨rfl, hB4⟩
      have hq := RkQ.start (hp.next hB4) s1 s2 s3 s4
      clear hk0 hk1 hB4 hp
      go_upto_region 14 with (fail)
      generalize hW5 : w4.alloc (.cells #[.int .i64 s1, .bool s2, .string s3, .string s4] 31) = w5 at *
      generalize hB11 : w4.heap.size = B11 at *
      clear hW5 hB11
      have hcc0 : (0 : Int) ≤ (cut : Int) := by omega
      have hcc1 : (cut : Int) ≤ (c1 : Int) := by omega
      have hcc2 : (cut : Int) ≤ (l1.length : Int) := by omega
      have hcallA := fun W hC => ranges_Of.calls a0_0 a0_1 A1 c1 (l1.take cut) 1 x1 x2 x3 x4 W hC (by rw [HLA.out]; omega) HA.out
      rw [HLA.out] at hcallA
      have hCa : ∀ W, Below w.heap.size w W → Kd.C k29 W A1 cut (l1.take cut) := fun W hb => by have q := Kd.C_take (m := cut) (Kd.C_below hr1 hb) hcl; rw [HLA.out] at q; exact q
      have HCA := Lib.hid hcallA
      have HCCA := Lib.hid hCa
      obtain ⟨AB, hAB⟩ : ∃ AB, (if c1 = cut then A1 else A1.map (·.add (cut * 3))) = AB := ⟨_, rfl⟩
      have hcallB := fun W hC => ranges_Of.calls a0_0 a0_1 AB (c1 - cut) (l1.drop cut) 2 y1 y2 y3 y4 W hC (by rw [HLB.out]; omega) HBB.out
      rw [HLB.out] at hcallB
      have hCb : ∀ W, Below w.heap.size w W → Kd.C k29 W AB (l1.length - cut) (l1.drop cut) := fun W hb => by have q := Kd.C_drop (m := cut) (Kd.C_below hr1 hb) hcl hc1; rw [HLB.out] at q; rw [← hAB]; exact q
      have HCB := Lib.hid hcallB
      have HCCB := Lib.hid hCb
      clear hcallA hCa hcallB hCb
      have hqd := hq.next (below_drew (Below.refl _ _))
      go_cut [12, 13] (fun v12 v13 wc => ∃ C12 C13, v12 = .pointer (some ⟨C12, 0, none⟩) ∧ v13 = .pointer (some ⟨C13, 0, none⟩) ∧ RkQ w wc B11 a0_0 a0_1 u7 l1.reverse s1 s2 s3 s4 ∧ wc.heap[C12]? = some (.cells #[.int .i64 x1, .bool x2, .string x3, .string x4] 31 (0, 0)) ∧ wc.heap[C13]? = some (.cells #[.int .i64 y1, .bool y2, .string y3, .string y4] 31 (0, 0)))
      case first =>
        refine wp_region_held_drew (S := fun W => (W.cell? ⟨w.heap.size, 0, none⟩ = some (.int .i64 a0_0) ∧ W.cell? ⟨w.heap.size, 1, none⟩ = some (.int .i64 a0_1))) (by kernel_rfl) hqd.ty (fun hHeld => ?_)
        generalize hWd : w5.drew = wd at *
        clear hWd
        refine tkY 0 (some 89) rfl rfl (by kernel_rfl) (by kernel_rfl) (by kernel_rfl) (fun _ _ _ h => h) (by rfl) (v := ?tkvf0) ?tkyf0 (by assumption) rfl ?tkrf0
        case tkyf0 =>
          intro W' hSw
          try dsimp only at hSw
          go_simp
          first | done | with_reducible rfl
        simp only [Act.put, List.setIfInBounds_toArray, List.set_cons_zero, List.set_cons_succ]
        refine tkY 1 (some 90) rfl rfl (by kernel_rfl) (by kernel_rfl) (by kernel_rfl) (fun _ _ _ h => h) (by rfl) (v := ?tkvf1) ?tkyf1 (by assumption) rfl ?tkrf1
        case tkyf1 =>
          intro W' hSw
          try dsimp only at hSw
          go_simp
          first | done | with_reducible rfl
        simp only [Act.put, List.setIfInBounds_toArray, List.set_cons_zero, List.set_cons_succ]
        refine tkY 2 (some 91) rfl rfl (by kernel_rfl) (by kernel_rfl) (by kernel_rfl) (fun _ _ _ h => h) (by rfl) (v := ?tkvf2) ?tkyf2 (by assumption) rfl ?tkrf2
        case tkyf2 =>
          intro W' hSw
          try dsimp only at hSw
          go_simp
          first | done | with_reducible rfl
        simp only [Act.put, List.setIfInBounds_toArray, List.set_cons_zero, List.set_cons_succ]
        refine tkY 3 (some 92) rfl rfl (by kernel_rfl) (by kernel_rfl) (by kernel_rfl) (fun _ _ _ h => h) (by rfl) (v := ?tkvf3) ?tkyf3 (by assumption) rfl ?tkrf3
        case tkyf3 =>
          intro W' hSw
          try dsimp only at hSw
          go_simp
          first | done | with_reducible rfl
        simp only [Act.put, List.setIfInBounds_toArray, List.set_cons_zero, List.set_cons_succ]
        refine tkY 5 (some 94) rfl rfl (by kernel_rfl) (by kernel_rfl) (by kernel_rfl) (fun _ _ _ h => h) (by rfl) (v := ?tkvf5) ?tkyf5 (by assumption) rfl ?tkrf5
        case tkyf5 =>
          intro W' hSw
          try dsimp only at hSw
          go_simp
          first | done | with_reducible rfl
        simp only [Act.put, List.setIfInBounds_toArray, List.set_cons_zero, List.set_cons_succ]
        refine tkY 6 (some 95) rfl rfl (by kernel_rfl) (by kernel_rfl) (by kernel_rfl) (fun _ _ _ h => h) (by rfl) (v := ?tkvf6) ?tkyf6 (by assumption) rfl ?tkrf6
        case tkyf6 =>
          intro W' hSw
          try dsimp only at hSw
          go_simp
          first | done | with_reducible rfl
        simp only [Act.put, List.setIfInBounds_toArray, List.set_cons_zero, List.set_cons_succ]
        refine tkY 7 (some 96) rfl rfl (by kernel_rfl) (by kernel_rfl) (by kernel_rfl) (fun _ _ _ h => h) (by rfl) (v := ?tkvf7) ?tkyf7 (by assumption) rfl ?tkrf7
        case tkyf7 =>
          intro W' hSw
          try dsimp only at hSw
          go_simp
          first | done | with_reducible rfl
        simp only [Act.put, List.setIfInBounds_toArray, List.set_cons_zero, List.set_cons_succ]
        refine tkY 8 (some 97) rfl rfl (by kernel_rfl) (by kernel_rfl) (by kernel_rfl) (fun _ _ _ h => h) (by rfl) (v := ?tkvf8) ?tkyf8 (by assumption) rfl ?tkrf8
        case tkyf8 =>
          intro W' hSw
          try dsimp only at hSw
          go_simp
          try rw [hAB]
          first | done | with_reducible rfl | (rw [hAB]; done) | (rw [hAB]; with_reducible rfl)
        simp only [Act.put, List.setIfInBounds_toArray, List.set_cons_zero, List.set_cons_succ]
        clear hAB
        refine wpAnyH_ready (rs := [4, 10, 11]) (by kernel_rfl) (by simp) ?_
        refine AllReadyH.cons (at_drop rfl) (fun KC hKC => ?_) ?_
        · go_simp
          (go_at_call 12; refine (HCA.out _ (HCCA.out _ hqd.below)).mono ?_; rintro e z1w ⟨rfl, z1B⟩; have z1 := hqd.next z1B)
          refine hKC.out _ _ z1.ty (fun hHeld => ?_)
          clear hKC KC
          try simp only [Act.put, List.setIfInBounds_toArray, List.set_cons_zero, List.set_cons_succ]
          refine wpAnyH_ready (rs := [9, 10, 11]) (by kernel_rfl) (by simp) ?_
          refine AllReadyH.cons (at_drop rfl) (fun KC hKC => ?_) ?_
          · go_simp
            (go_at_call 12; refine (HCB.out _ (HCCB.out _ z1.below)).mono ?_; rintro e z2w ⟨rfl, z2B⟩; have z2 := z1.next z2B)
            refine hKC.out _ _ z2.ty (fun hHeld => ?_)
            clear hKC KC
            try simp only [Act.put, List.setIfInBounds_toArray, List.set_cons_zero, List.set_cons_succ]
            refine wpAnyH_ready (rs := [10, 11]) (by kernel_rfl) (by simp) ?_
            refine AllReadyH.cons (at_drop rfl) (fun KC hKC => ?_) ?_
            · go_simp
              have z3 := z2.next (below_alloc (Below.refl _ _) (.cells #[.int .i64 0, .bool false, .string ⟨#[]⟩, .string ⟨#[]⟩] 31))
              have z3k := (show (_ : World).heap[z2w.heap.size]? = some (.cells #[.int .i64 0, .bool false, .string ⟨#[]⟩, .string ⟨#[]⟩] 31) from blk_new z2w (.cells #[.int .i64 0, .bool false, .string ⟨#[]⟩, .string ⟨#[]⟩] 31))
              have z3t : B11 < z2w.heap.size := blk_lt z2.bs
              refine hKC.out _ _ z3.ty (fun hHeld => ?_)
              clear hKC KC
              try simp only [Act.put, List.setIfInBounds_toArray, List.set_cons_zero, List.set_cons_succ]
              generalize hz3w : World.alloc z2w (.cells #[.int .i64 0, .bool false, .string ⟨#[]⟩, .string ⟨#[]⟩] 31) = z3w at *
              generalize hz3B : z2w.heap.size = C12 at *
              clear hz3w hz3B
              refine wpAnyH_ready (rs := [11]) (by kernel_rfl) (by simp) ?_
              refine AllReadyH.cons (at_drop rfl) (fun KC hKC => ?_) ?_
              · go_simp
                have z4 := z3.next (below_alloc (Below.refl _ _) (.cells #[.int .i64 0, .bool false, .string ⟨#[]⟩, .string ⟨#[]⟩] 31))
                have z4l := (show (_ : World).heap[z3w.heap.size]? = some (.cells #[.int .i64 0, .bool false, .string ⟨#[]⟩, .string ⟨#[]⟩] 31) from blk_new z3w (.cells #[.int .i64 0, .bool false, .string ⟨#[]⟩, .string ⟨#[]⟩] 31))
                have z4t : B11 < z3w.heap.size := blk_lt z3.bs
                have z4k := blk_alloc z3k (.cells #[.int .i64 0, .bool false, .string ⟨#[]⟩, .string ⟨#[]⟩] 31)
                have z4e : C12 ≠ z3w.heap.size := Nat.ne_of_lt (blk_lt z3k)
                refine hKC.out _ _ z4.ty (fun hHeld => ?_)
                clear hKC KC
                try simp only [Act.put, List.setIfInBounds_toArray, List.set_cons_zero, List.set_cons_succ]
                generalize hz4w : World.alloc z3w (.cells #[.int .i64 0, .bool false, .string ⟨#[]⟩, .string ⟨#[]⟩] 31) = z4w at *
                generalize hz4B : z3w.heap.size = C13 at *
                clear hz4w hz4B
                refine wpAnyH_ready (rs := [12]) (by kernel_rfl) (by simp) ?_
                refine AllReadyH.cons (at_drop rfl) (fun KC hKC => ?_) ?_
                · obtain ⟨⟨z5g0, z5g1, z5g2, z5g3⟩, z5f0, z5f1, z5f2, z5f3⟩ := cells4 z4k
                  go_simp
                  have z5 := z4.set4 z4k z3t (.int .i64 x1) (.bool x2) (.string x3) (.string x4)
                  have z5k := put4 z4k (.int .i64 x1) (.bool x2) (.string x3) (.string x4)
                  have z5l := far4 z4l (Ne.symm z4e) (.int .i64 x1) (.bool x2) (.string x3) (.string x4)
                  refine hKC.out _ _ z5.ty (fun hHeld => ?_)
                  clear hKC KC
                  try simp only [Act.put, List.setIfInBounds_toArray, List.set_cons_zero, List.set_cons_succ]
                  clear z5g0 z5g1 z5g2 z5g3 z5f0 z5f1 z5f2 z5f3
                  generalize hz5w : World.setCell (World.setCell (World.setCell (World.setCell z4w ⟨C12, 0, none⟩ (.int .i64 x1)) ⟨C12, 1, none⟩ (.bool x2)) ⟨C12, 2, none⟩ (.string x3)) ⟨C12, 3, none⟩ (.string x4) = z5w at *
                  clear hz5w
                  refine wpAnyH_ready (rs := [13]) (by kernel_rfl) (by simp) ?_
                  refine AllReadyH.cons (at_drop rfl) (fun KC hKC => ?_) ?_
                  · obtain ⟨⟨z6g0, z6g1, z6g2, z6g3⟩, z6f0, z6f1, z6f2, z6f3⟩ := cells4 z5l
                    go_simp
                    have z6 := z5.set4 z5l z4t (.int .i64 y1) (.bool y2) (.string y3) (.string y4)
                    have z6l := put4 z5l (.int .i64 y1) (.bool y2) (.string y3) (.string y4)
                    have z6k := far4 z5k z4e (.int .i64 y1) (.bool y2) (.string y3) (.string y4)
                    refine hKC.out _ _ z6.ty (fun hHeld => ?_)
                    clear hKC KC
                    try simp only [Act.put, List.setIfInBounds_toArray, List.set_cons_zero, List.set_cons_succ]
                    clear z6g0 z6g1 z6g2 z6g3 z6f0 z6f1 z6f2 z6f3
                    generalize hz6w : World.setCell (World.setCell (World.setCell (World.setCell z5w ⟨C13, 0, none⟩ (.int .i64 y1)) ⟨C13, 1, none⟩ (.bool y2)) ⟨C13, 2, none⟩ (.string y3)) ⟨C13, 3, none⟩ (.string y4) = z6w at *
                    clear hz6w
                    refine wpAnyH_done (by kernel_rfl) ?_ _
                    go_wp2_with fail
                    go_meet
                    exact ⟨_, _, rfl, rfl, z6, z6k, z6l⟩
                  exact AllReadyH.nil
                exact AllReadyH.nil
              exact AllReadyH.nil
            refine AllReadyH.cons (at_drop rfl) (fun KC hKC => ?_) ?_
            · go_simp
              have z7 := z2.next (below_alloc (Below.refl _ _) (.cells #[.int .i64 0, .bool false, .string ⟨#[]⟩, .string ⟨#[]⟩] 31))
              have z7l := (show (_ : World).heap[z2w.heap.size]? = some (.cells #[.int .i64 0, .bool false, .string ⟨#[]⟩, .string ⟨#[]⟩] 31) from blk_new z2w (.cells #[.int .i64 0, .bool false, .string ⟨#[]⟩, .string ⟨#[]⟩] 31))
              have z7t : B11 < z2w.heap.size := blk_lt z2.bs
              refine hKC.out _ _ z7.ty (fun hHeld => ?_)
              clear hKC KC
              try simp only [Act.put, List.setIfInBounds_toArray, List.set_cons_zero, List.set_cons_succ]
              generalize hz7w : World.alloc z2w (.cells #[.int .i64 0, .bool false, .string ⟨#[]⟩, .string ⟨#[]⟩] 31) = z7w at *
              generalize hz7B : z2w.heap.size = C13 at *
              clear hz7w hz7B
              refine wpAnyH_ready (rs := [10]) (by kernel_rfl) (by simp) ?_
              refine AllReadyH.cons (at_drop rfl) (fun KC hKC => ?_) ?_
              · go_simp
                have z8 := z7.next (below_alloc (Below.refl _ _) (.cells #[.int .i64 0, .bool false, .string ⟨#[]⟩, .string ⟨#[]⟩] 31))
                have z8k := (show (_ : World).heap[z7w.heap.size]? = some (.cells #[.int .i64 0, .bool false, .string ⟨#[]⟩, .string ⟨#[]⟩] 31) from blk_new z7w (.cells #[.int .i64 0, .bool false, .string ⟨#[]⟩, .string ⟨#[]⟩] 31))
                have z8t : B11 < z7w.heap.size := blk_lt z7.bs
                have z8l := blk_alloc z7l (.cells #[.int .i64 0, .bool false, .string ⟨#[]⟩, .string ⟨#[]⟩] 31)
                have z8e : C13 ≠ z7w.heap.size := Nat.ne_of_lt (blk_lt z7l)
                refine hKC.out _ _ z8.ty (fun hHeld => ?_)
                clear hKC KC
                try simp only [Act.put, List.setIfInBounds_toArray, List.set_cons_zero, List.set_cons_succ]
                generalize hz8w : World.alloc z7w (.cells #[.int .i64 0, .bool false, .string ⟨#[]⟩, .string ⟨#[]⟩] 31) = z8w at *
                generalize hz8B : z7w.heap.size = C12 at *
                clear hz8w hz8B
                refine wpAnyH_ready (rs := [12]) (by kernel_rfl) (by simp) ?_
                refine AllReadyH.cons (at_drop rfl) (fun KC hKC => ?_) ?_
                · obtain ⟨⟨z9g0, z9g1, z9g2, z9g3⟩, z9f0, z9f1, z9f2, z9f3⟩ := cells4 z8k
                  go_simp
                  have z9 := z8.set4 z8k z8t (.int .i64 x1) (.bool x2) (.string x3) (.string x4)
                  have z9k := put4 z8k (.int .i64 x1) (.bool x2) (.string x3) (.string x4)
                  have z9l := far4 z8l z8e (.int .i64 x1) (.bool x2) (.string x3) (.string x4)
                  refine hKC.out _ _ z9.ty (fun hHeld => ?_)
                  clear hKC KC
                  try simp only [Act.put, List.setIfInBounds_toArray, List.set_cons_zero, List.set_cons_succ]
                  clear z9g0 z9g1 z9g2 z9g3 z9f0 z9f1 z9f2 z9f3
                  generalize hz9w : World.setCell (World.setCell (World.setCell (World.setCell z8w ⟨C12, 0, none⟩ (.int .i64 x1)) ⟨C12, 1, none⟩ (.bool x2)) ⟨C12, 2, none⟩ (.string x3)) ⟨C12, 3, none⟩ (.string x4) = z9w at *
                  clear hz9w
                  refine wpAnyH_ready (rs := [13]) (by kernel_rfl) (by simp) ?_
                  refine AllReadyH.cons (at_drop rfl) (fun KC hKC => ?_) ?_
                  · obtain ⟨⟨z10g0, z10g1, z10g2, z10g3⟩, z10f0, z10f1, z10f2, z10f3⟩ := cells4 z9l
                    go_simp
                    have z10 := z9.set4 z9l z7t (.int .i64 y1) (.bool y2) (.string y3) (.string y4)
                    have z10l := put4 z9l (.int .i64 y1) (.bool y2) (.string y3) (.string y4)
                    have z10k := far4 z9k (Ne.symm z8e) (.int .i64 y1) (.bool y2) (.string y3) (.string y4)
                    refine hKC.out _ _ z10.ty (fun hHeld => ?_)
                    clear hKC KC
                    try simp only [Act.put, List.setIfInBounds_toArray, List.set_cons_zero, List.set_cons_succ]
                    clear z10g0 z10g1 z10g2 z10g3 z10f0 z10f1 z10f2 z10f3
                    generalize hz10w : World.setCell (World.setCell (World.setCell (World.setCell z9w ⟨C13, 0, none⟩ (.int .i64 y1)) ⟨C13, 1, none⟩ (.bool y2)) ⟨C13, 2, none⟩ (.string y3)) ⟨C13, 3, none⟩ (.string y4) = z10w at *
                    clear hz10w
                    refine wpAnyH_done (by kernel_rfl) ?_ _
                    go_wp2_with fail
                    go_meet
                    exact ⟨_, _, rfl, rfl, z10, z10k, z10l⟩
                  exact AllReadyH.nil
                exact AllReadyH.nil
              exact AllReadyH.nil
            exact AllReadyH.nil
          refine AllReadyH.cons (at_drop rfl) (fun KC hKC => ?_) ?_
          · go_simp
            have z11 := z1.next (below_alloc (Below.refl _ _) (.cells #[.int .i64 0, .bool false, .string ⟨#[]⟩, .string ⟨#[]⟩] 31))
            have z11k := (show (_ : World).heap[z1w.heap.size]? = some (.cells #[.int .i64 0, .bool false, .string ⟨#[]⟩, .string ⟨#[]⟩] 31) from blk_new z1w (.cells #[.int .i64 0, .bool false, .string ⟨#[]⟩, .string ⟨#[]⟩] 31))
            have z11t : B11 < z1w.heap.size := blk_lt z1.bs
            refine hKC.out _ _ z11.ty (fun hHeld => ?_)
            clear hKC KC
            try simp only [Act.put, List.setIfInBounds_toArray, List.set_cons_zero, List.set_cons_succ]
            generalize hz11w : World.alloc z1w (.cells #[.int .i64 0, .bool false, .string ⟨#[]⟩, .string ⟨#[]⟩] 31) = z11w at *
            generalize hz11B : z1w.heap.size = C12 at *
            clear hz11w hz11B
            refine wpAnyH_ready (rs := [9, 11]) (by kernel_rfl) (by simp) ?_
            refine AllReadyH.cons (at_drop rfl) (fun KC hKC => ?_) ?_
            · go_simp
              (go_at_call 12; refine (HCB.out _ (HCCB.out _ z11.below)).mono ?_; rintro e z12w ⟨rfl, z12B⟩; have z12 := z11.next z12B)
              have z12k := blk_below z11k z12B
              refine hKC.out _ _ z12.ty (fun hHeld => ?_)
              clear hKC KC
              try simp only [Act.put, List.setIfInBounds_toArray, List.set_cons_zero, List.set_cons_succ]
              refine wpAnyH_ready (rs := [11]) (by kernel_rfl) (by simp) ?_
              refine AllReadyH.cons (at_drop rfl) (fun KC hKC => ?_) ?_
              · go_simp
                have z13 := z12.next (below_alloc (Below.refl _ _) (.cells #[.int .i64 0, .bool false, .string ⟨#[]⟩, .string ⟨#[]⟩] 31))
                have z13l := (show (_ : World).heap[z12w.heap.size]? = some (.cells #[.int .i64 0, .bool false, .string ⟨#[]⟩, .string ⟨#[]⟩] 31) from blk_new z12w (.cells #[.int .i64 0, .bool false, .string ⟨#[]⟩, .string ⟨#[]⟩] 31))
                have z13t : B11 < z12w.heap.size := blk_lt z12.bs
                have z13k := blk_alloc z12k (.cells #[.int .i64 0, .bool false, .string ⟨#[]⟩, .string ⟨#[]⟩] 31)
                have z13e : C12 ≠ z12w.heap.size := Nat.ne_of_lt (blk_lt z12k)
                refine hKC.out _ _ z13.ty (fun hHeld => ?_)
                clear hKC KC
                try simp only [Act.put, List.setIfInBounds_toArray, List.set_cons_zero, List.set_cons_succ]
                generalize hz13w : World.alloc z12w (.cells #[.int .i64 0, .bool false, .string ⟨#[]⟩, .string ⟨#[]⟩] 31) = z13w at *
                generalize hz13B : z12w.heap.size = C13 at *
                clear hz13w hz13B
                refine wpAnyH_ready (rs := [12]) (by kernel_rfl) (by simp) ?_
                refine AllReadyH.cons (at_drop rfl) (fun KC hKC => ?_) ?_
                · obtain ⟨⟨z14g0, z14g1, z14g2, z14g3⟩, z14f0, z14f1, z14f2, z14f3⟩ := cells4 z13k
                  go_simp
                  have z14 := z13.set4 z13k z11t (.int .i64 x1) (.bool x2) (.string x3) (.string x4)
                  have z14k := put4 z13k (.int .i64 x1) (.bool x2) (.string x3) (.string x4)
                  have z14l := far4 z13l (Ne.symm z13e) (.int .i64 x1) (.bool x2) (.string x3) (.string x4)
                  refine hKC.out _ _ z14.ty (fun hHeld => ?_)
                  clear hKC KC
                  try simp only [Act.put, List.setIfInBounds_toArray, List.set_cons_zero, List.set_cons_succ]
                  clear z14g0 z14g1 z14g2 z14g3 z14f0 z14f1 z14f2 z14f3
                  generalize hz14w : World.setCell (World.setCell (World.setCell (World.setCell z13w ⟨C12, 0, none⟩ (.int .i64 x1)) ⟨C12, 1, none⟩ (.bool x2)) ⟨C12, 2, none⟩ (.string x3)) ⟨C12, 3, none⟩ (.string x4) = z14w at *
                  clear hz14w
                  refine wpAnyH_ready (rs := [13]) (by kernel_rfl) (by simp) ?_
                  refine AllReadyH.cons (at_drop rfl) (fun KC hKC => ?_) ?_
                  · obtain ⟨⟨z15g0, z15g1, z15g2, z15g3⟩, z15f0, z15f1, z15f2, z15f3⟩ := cells4 z14l
                    go_simp
                    have z15 := z14.set4 z14l z13t (.int .i64 y1) (.bool y2) (.string y3) (.string y4)
                    have z15l := put4 z14l (.int .i64 y1) (.bool y2) (.string y3) (.string y4)
                    have z15k := far4 z14k z13e (.int .i64 y1) (.bool y2) (.string y3) (.string y4)
                    refine hKC.out _ _ z15.ty (fun hHeld => ?_)
                    clear hKC KC
                    try simp only [Act.put, List.setIfInBounds_toArray, List.set_cons_zero, List.set_cons_succ]
                    clear z15g0 z15g1 z15g2 z15g3 z15f0 z15f1 z15f2 z15f3
                    generalize hz15w : World.setCell (World.setCell (World.setCell (World.setCell z14w ⟨C13, 0, none⟩ (.int .i64 y1)) ⟨C13, 1, none⟩ (.bool y2)) ⟨C13, 2, none⟩ (.string y3)) ⟨C13, 3, none⟩ (.string y4) = z15w at *
                    clear hz15w
                    refine wpAnyH_done (by kernel_rfl) ?_ _
                    go_wp2_with fail
                    go_meet
                    exact ⟨_, _, rfl, rfl, z15, z15k, z15l⟩
                  exact AllReadyH.nil
                exact AllReadyH.nil
              exact AllReadyH.nil
            refine AllReadyH.cons (at_drop rfl) (fun KC hKC => ?_) ?_
            · go_simp
              have z16 := z11.next (below_alloc (Below.refl _ _) (.cells #[.int .i64 0, .bool false, .string ⟨#[]⟩, .string ⟨#[]⟩] 31))
              have z16l := (show (_ : World).heap[z11w.heap.size]? = some (.cells #[.int .i64 0, .bool false, .string ⟨#[]⟩, .string ⟨#[]⟩] 31) from blk_new z11w (.cells #[.int .i64 0, .bool false, .string ⟨#[]⟩, .string ⟨#[]⟩] 31))
              have z16t : B11 < z11w.heap.size := blk_lt z11.bs
              have z16k := blk_alloc z11k (.cells #[.int .i64 0, .bool false, .string ⟨#[]⟩, .string ⟨#[]⟩] 31)
              have z16e : C12 ≠ z11w.heap.size := Nat.ne_of_lt (blk_lt z11k)
              refine hKC.out _ _ z16.ty (fun hHeld => ?_)
              clear hKC KC
              try simp only [Act.put, List.setIfInBounds_toArray, List.set_cons_zero, List.set_cons_succ]
              generalize hz16w : World.alloc z11w (.cells #[.int .i64 0, .bool false, .string ⟨#[]⟩, .string ⟨#[]⟩] 31) = z16w at *
              generalize hz16B : z11w.heap.size = C13 at *
              clear hz16w hz16B
              refine wpAnyH_ready (rs := [9]) (by kernel_rfl) (by simp) ?_
              refine AllReadyH.cons (at_drop rfl) (fun KC hKC => ?_) ?_
              · go_simp
                (go_at_call 12; refine (HCB.out _ (HCCB.out _ z16.below)).mono ?_; rintro e z17w ⟨rfl, z17B⟩; have z17 := z16.next z17B)
                have z17k := blk_below z16k z17B
                have z17l := blk_below z16l z17B
                refine hKC.out _ _ z17.ty (fun hHeld => ?_)
                clear hKC KC
                try simp only [Act.put, List.setIfInBounds_toArray, List.set_cons_zero, List.set_cons_succ]
                refine wpAnyH_ready (rs := [12]) (by kernel_rfl) (by simp) ?_
                refine AllReadyH.cons (at_drop rfl) (fun KC hKC => ?_) ?_
                · obtain ⟨⟨z18g0, z18g1, z18g2, z18g3⟩, z18f0, z18f1, z18f2, z18f3⟩ := cells4 z17k
                  go_simp
                  have z18 := z17.set4 z17k z11t (.int .i64 x1) (.bool x2) (.string x3) (.string x4)
                  have z18k := put4 z17k (.int .i64 x1) (.bool x2) (.string x3) (.string x4)
                  have z18l := far4 z17l (Ne.symm z16e) (.int .i64 x1) (.bool x2) (.string x3) (.string x4)
                  refine hKC.out _ _ z18.ty (fun hHeld => ?_)
                  clear hKC KC
                  try simp only [Act.put, List.setIfInBounds_toArray, List.set_cons_zero, List.set_cons_succ]
                  clear z18g0 z18g1 z18g2 z18g3 z18f0 z18f1 z18f2 z18f3
                  generalize hz18w : World.setCell (World.setCell (World.setCell (World.setCell z17w ⟨C12, 0, none⟩ (.int .i64 x1)) ⟨C12, 1, none⟩ (.bool x2)) ⟨C12, 2, none⟩ (.string x3)) ⟨C12, 3, none⟩ (.string x4) = z18w at *
                  clear hz18w
                  refine wpAnyH_ready (rs := [13]) (by kernel_rfl) (by simp) ?_
                  refine AllReadyH.cons (at_drop rfl) (fun KC hKC => ?_) ?_
                  · obtain ⟨⟨z19g0, z19g1, z19g2, z19g3⟩, z19f0, z19f1, z19f2, z19f3⟩ := cells4 z18l
                    go_simp
                    have z19 := z18.set4 z18l z16t (.int .i64 y1) (.bool y2) (.string y3) (.string y4)
                    have z19l := put4 z18l (.int .i64 y1) (.bool y2) (.string y3) (.string y4)
                    have z19k := far4 z18k z16e (.int .i64 y1) (.bool y2) (.string y3) (.string y4)
                    refine hKC.out _ _ z19.ty (fun hHeld => ?_)
                    clear hKC KC
                    try simp only [Act.put, List.setIfInBounds_toArray, List.set_cons_zero, List.set_cons_succ]
                    clear z19g0 z19g1 z19g2 z19g3 z19f0 z19f1 z19f2 z19f3
                    generalize hz19w : World.setCell (World.setCell (World.setCell (World.setCell z18w ⟨C13, 0, none⟩ (.int .i64 y1)) ⟨C13, 1, none⟩ (.bool y2)) ⟨C13, 2, none⟩ (.string y3)) ⟨C13, 3, none⟩ (.string y4) = z19w at *
                    clear hz19w
                    refine wpAnyH_done (by kernel_rfl) ?_ _
                    go_wp2_with fail
                    go_meet
                    exact ⟨_, _, rfl, rfl, z19, z19k, z19l⟩
                  exact AllReadyH.nil
                exact AllReadyH.nil
              exact AllReadyH.nil
            exact AllReadyH.nil
          refine AllReadyH.cons (at_drop rfl) (fun KC hKC => ?_) ?_
          · go_simp
            have z20 := z1.next (below_alloc (Below.refl _ _) (.cells #[.int .i64 0, .bool false, .string ⟨#[]⟩, .string ⟨#[]⟩] 31))
            have z20l := (show (_ : World).heap[z1w.heap.size]? = some (.cells #[.int .i64 0, .bool false, .string ⟨#[]⟩, .string ⟨#[]⟩] 31) from blk_new z1w (.cells #[.int .i64 0, .bool false, .string ⟨#[]⟩, .string ⟨#[]⟩] 31))
            have z20t : B11 < z1w.heap.size := blk_lt z1.bs
            refine hKC.out _ _ z20.ty (fun hHeld => ?_)
            clear hKC KC
            try simp only [Act.put, List.setIfInBounds_toArray, List.set_cons_zero, List.set_cons_succ]
            generalize hz20w : World.alloc z1w (.cells #[.int .i64 0, .bool false, .string ⟨#[]⟩, .string ⟨#[]⟩] 31) = z20w at *
            generalize hz20B : z1w.heap.size = C13 at *
            clear hz20w hz20B
            refine wpAnyH_ready (rs := [9, 10]) (by kernel_rfl) (by simp) ?_
            refine AllReadyH.cons (at_drop rfl) (fun KC hKC => ?_) ?_
            · go_simp
              (go_at_call 12; refine (HCB.out _ (HCCB.out _ z20.below)).mono ?_; rintro e z21w ⟨rfl, z21B⟩; have z21 := z20.next z21B)
              have z21l := blk_below z20l z21B
              refine hKC.out _ _ z21.ty (fun hHeld => ?_)
              clear hKC KC
              try simp only [Act.put, List.setIfInBounds_toArray, List.set_cons_zero, List.set_cons_succ]
              refine wpAnyH_ready (rs := [10]) (by kernel_rfl) (by simp) ?_
              refine AllReadyH.cons (at_drop rfl) (fun KC hKC => ?_) ?_
              · go_simp
                have z22 := z21.next (below_alloc (Below.refl _ _) (.cells #[.int .i64 0, .bool false, .string ⟨#[]⟩, .string ⟨#[]⟩] 31))
                have z22k := (show (_ : World).heap[z21w.heap.size]? = some (.cells #[.int .i64 0, .bool false, .string ⟨#[]⟩, .string ⟨#[]⟩] 31) from blk_new z21w (.cells #[.int .i64 0, .bool false, .string ⟨#[]⟩, .string ⟨#[]⟩] 31))
                have z22t : B11 < z21w.heap.size := blk_lt z21.bs
                have z22l := blk_alloc z21l (.cells #[.int .i64 0, .bool false, .string ⟨#[]⟩, .string ⟨#[]⟩] 31)
                have z22e : C13 ≠ z21w.heap.size := Nat.ne_of_lt (blk_lt z21l)
                refine hKC.out _ _ z22.ty (fun hHeld => ?_)
                clear hKC KC
                try simp only [Act.put, List.setIfInBounds_toArray, List.set_cons_zero, List.set_cons_succ]
                generalize hz22w : World.alloc z21w (.cells #[.int .i64 0, .bool false, .string ⟨#[]⟩, .string ⟨#[]⟩] 31) = z22w at *
                generalize hz22B : z21w.heap.size = C12 at *
                clear hz22w hz22B
                refine wpAnyH_ready (rs := [12]) (by kernel_rfl) (by simp) ?_
                refine AllReadyH.cons (at_drop rfl) (fun KC hKC => ?_) ?_
                · obtain ⟨⟨z23g0, z23g1, z23g2, z23g3⟩, z23f0, z23f1, z23f2, z23f3⟩ := cells4 z22k
                  go_simp
                  have z23 := z22.set4 z22k z22t (.int .i64 x1) (.bool x2) (.string x3) (.string x4)
                  have z23k := put4 z22k (.int .i64 x1) (.bool x2) (.string x3) (.string x4)
                  have z23l := far4 z22l z22e (.int .i64 x1) (.bool x2) (.string x3) (.string x4)
                  refine hKC.out _ _ z23.ty (fun hHeld => ?_)
                  clear hKC KC
                  try simp only [Act.put, List.setIfInBounds_toArray, List.set_cons_zero, List.set_cons_succ]
                  clear z23g0 z23g1 z23g2 z23g3 z23f0 z23f1 z23f2 z23f3
                  generalize hz23w : World.setCell (World.setCell (World.setCell (World.setCell z22w ⟨C12, 0, none⟩ (.int .i64 x1)) ⟨C12, 1, none⟩ (.bool x2)) ⟨C12, 2, none⟩ (.string x3)) ⟨C12, 3, none⟩ (.string x4) = z23w at *
                  clear hz23w
                  refine wpAnyH_ready (rs := [13]) (by kernel_rfl) (by simp) ?_
                  refine AllReadyH.cons (at_drop rfl) (fun KC hKC => ?_) ?_
                  · obtain ⟨⟨z24g0, z24g1, z24g2, z24g3⟩, z24f0, z24f1, z24f2, z24f3⟩ := cells4 z23l
                    go_simp
                    have z24 := z23.set4 z23l z20t (.int .i64 y1) (.bool y2) (.string y3) (.string y4)
                    have z24l := put4 z23l (.int .i64 y1) (.bool y2) (.string y3) (.string y4)
                    have z24k := far4 z23k (Ne.symm z22e) (.int .i64 y1) (.bool y2) (.string y3) (.string y4)
                    refine hKC.out _ _ z24.ty (fun hHeld => ?_)
                    clear hKC KC
                    try simp only [Act.put, List.setIfInBounds_toArray, List.set_cons_zero, List.set_cons_succ]
                    clear z24g0 z24g1 z24g2 z24g3 z24f0 z24f1 z24f2 z24f3
                    generalize hz24w : World.setCell (World.setCell (World.setCell (World.setCell z23w ⟨C13, 0, none⟩ (.int .i64 y1)) ⟨C13, 1, none⟩ (.bool y2)) ⟨C13, 2, none⟩ (.string y3)) ⟨C13, 3, none⟩ (.string y4) = z24w at *
                    clear hz24w
                    refine wpAnyH_done (by kernel_rfl) ?_ _
                    go_wp2_with fail
                    go_meet
                    exact ⟨_, _, rfl, rfl, z24, z24k, z24l⟩
                  exact AllReadyH.nil
                exact AllReadyH.nil
              exact AllReadyH.nil
            refine AllReadyH.cons (at_drop rfl) (fun KC hKC => ?_) ?_
            · go_simp
              have z25 := z20.next (below_alloc (Below.refl _ _) (.cells #[.int .i64 0, .bool false, .string ⟨#[]⟩, .string ⟨#[]⟩] 31))
              have z25k := (show (_ : World).heap[z20w.heap.size]? = some (.cells #[.int .i64 0, .bool false, .string ⟨#[]⟩, .string ⟨#[]⟩] 31) from blk_new z20w (.cells #[.int .i64 0, .bool false, .string ⟨#[]⟩, .string ⟨#[]⟩] 31))
              have z25t : B11 < z20w.heap.size := blk_lt z20.bs
              have z25l := blk_alloc z20l (.cells #[.int .i64 0, .bool false, .string ⟨#[]⟩, .string ⟨#[]⟩] 31)
              have z25e : C13 ≠ z20w.heap.size := Nat.ne_of_lt (blk_lt z20l)
              refine hKC.out _ _ z25.ty (fun hHeld => ?_)
              clear hKC KC
              try simp only [Act.put, List.setIfInBounds_toArray, List.set_cons_zero, List.set_cons_succ]
              generalize hz25w : World.alloc z20w (.cells #[.int .i64 0, .bool false, .string ⟨#[]⟩, .string ⟨#[]⟩] 31) = z25w at *
              generalize hz25B : z20w.heap.size = C12 at *
              clear hz25w hz25B
              refine wpAnyH_ready (rs := [9]) (by kernel_rfl) (by simp) ?_
              refine AllReadyH.cons (at_drop rfl) (fun KC hKC => ?_) ?_
              · go_simp
                (go_at_call 12; refine (HCB.out _ (HCCB.out _ z25.below)).mono ?_; rintro e z26w ⟨rfl, z26B⟩; have z26 := z25.next z26B)
                have z26k := blk_below z25k z26B
                have z26l := blk_below z25l z26B
                refine hKC.out _ _ z26.ty (fun hHeld => ?_)
                clear hKC KC
                try simp only [Act.put, List.setIfInBounds_toArray, List.set_cons_zero, List.set_cons_succ]
                refine wpAnyH_ready (rs := [12]) (by kernel_rfl) (by simp) ?_
                refine AllReadyH.cons (at_drop rfl) (fun KC hKC => ?_) ?_
                · obtain ⟨⟨z27g0, z27g1, z27g2, z27g3⟩, z27f0, z27f1, z27f2, z27f3⟩ := cells4 z26k
                  go_simp
                  have z27 := z26.set4 z26k z25t (.int .i64 x1) (.bool x2) (.string x3) (.string x4)
                  have z27k := put4 z26k (.int .i64 x1) (.bool x2) (.string x3) (.string x4)
                  have z27l := far4 z26l z25e (.int .i64 x1) (.bool x2) (.string x3) (.string x4)
                  refine hKC.out _ _ z27.ty (fun hHeld => ?_)
                  clear hKC KC
                  try simp only [Act.put, List.setIfInBounds_toArray, List.set_cons_zero, List.set_cons_succ]
                  clear z27g0 z27g1 z27g2 z27g3 z27f0 z27f1 z27f2 z27f3
                  generalize hz27w : World.setCell (World.setCell (World.setCell (World.setCell z26w ⟨C12, 0, none⟩ (.int .i64 x1)) ⟨C12, 1, none⟩ (.bool x2)) ⟨C12, 2, none⟩ (.string x3)) ⟨C12, 3, none⟩ (.string x4) = z27w at *
                  clear hz27w
                  refine wpAnyH_ready (rs := [13]) (by kernel_rfl) (by simp) ?_
                  refine AllReadyH.cons (at_drop rfl) (fun KC hKC => ?_) ?_
                  · obtain ⟨⟨z28g0, z28g1, z28g2, z28g3⟩, z28f0, z28f1, z28f2, z28f3⟩ := cells4 z27l
                    go_simp
                    have z28 := z27.set4 z27l z20t (.int .i64 y1) (.bool y2) (.string y3) (.string y4)
                    have z28l := put4 z27l (.int .i64 y1) (.bool y2) (.string y3) (.string y4)
                    have z28k := far4 z27k (Ne.symm z25e) (.int .i64 y1) (.bool y2) (.string y3) (.string y4)
                    refine hKC.out _ _ z28.ty (fun hHeld => ?_)
                    clear hKC KC
                    try simp only [Act.put, List.setIfInBounds_toArray, List.set_cons_zero, List.set_cons_succ]
                    clear z28g0 z28g1 z28g2 z28g3 z28f0 z28f1 z28f2 z28f3
                    generalize hz28w : World.setCell (World.setCell (World.setCell (World.setCell z27w ⟨C13, 0, none⟩ (.int .i64 y1)) ⟨C13, 1, none⟩ (.bool y2)) ⟨C13, 2, none⟩ (.string y3)) ⟨C13, 3, none⟩ (.string y4) = z28w at *
                    clear hz28w
                    refine wpAnyH_done (by kernel_rfl) ?_ _
                    go_wp2_with fail
                    go_meet
                    exact ⟨_, _, rfl, rfl, z28, z28k, z28l⟩
                  exact AllReadyH.nil
                exact AllReadyH.nil
              exact AllReadyH.nil
            exact AllReadyH.nil
          exact AllReadyH.nil
        refine AllReadyH.cons (at_drop rfl) (fun KC hKC => ?_) ?_
        · go_simp
          have z29 := hqd.next (below_alloc (Below.refl _ _) (.cells #[.int .i64 0, .bool false, .string ⟨#[]⟩, .string ⟨#[]⟩] 31))
          have z29k := (show (_ : World).heap[wd.heap.size]? = some (.cells #[.int .i64 0, .bool false, .string ⟨#[]⟩, .string ⟨#[]⟩] 31) from blk_new wd (.cells #[.int .i64 0, .bool false, .string ⟨#[]⟩, .string ⟨#[]⟩] 31))
          have z29t : B11 < wd.heap.size := blk_lt hqd.bs
          refine hKC.out _ _ z29.ty (fun hHeld => ?_)
          clear hKC KC
          try simp only [Act.put, List.setIfInBounds_toArray, List.set_cons_zero, List.set_cons_succ]
          generalize hz29w : World.alloc wd (.cells #[.int .i64 0, .bool false, .string ⟨#[]⟩, .string ⟨#[]⟩] 31) = z29w at *
          generalize hz29B : wd.heap.size = C12 at *
          clear hz29w hz29B
          refine wpAnyH_ready (rs := [4, 11]) (by kernel_rfl) (by simp) ?_
          refine AllReadyH.cons (at_drop rfl) (fun KC hKC => ?_) ?_
          · go_simp
            (go_at_call 12; refine (HCA.out _ (HCCA.out _ z29.below)).mono ?_; rintro e z30w ⟨rfl, z30B⟩; have z30 := z29.next z30B)
            have z30k := blk_below z29k z30B
            refine hKC.out _ _ z30.ty (fun hHeld => ?_)
            clear hKC KC
            try simp only [Act.put, List.setIfInBounds_toArray, List.set_cons_zero, List.set_cons_succ]
            refine wpAnyH_ready (rs := [9, 11]) (by kernel_rfl) (by simp) ?_
            refine AllReadyH.cons (at_drop rfl) (fun KC hKC => ?_) ?_
            · go_simp
              (go_at_call 12; refine (HCB.out _ (HCCB.out _ z30.below)).mono ?_; rintro e z31w ⟨rfl, z31B⟩; have z31 := z30.next z31B)
              have z31k := blk_below z30k z31B
              refine hKC.out _ _ z31.ty (fun hHeld => ?_)
              clear hKC KC
              try simp only [Act.put, List.setIfInBounds_toArray, List.set_cons_zero, List.set_cons_succ]
              refine wpAnyH_ready (rs := [11]) (by kernel_rfl) (by simp) ?_
              refine AllReadyH.cons (at_drop rfl) (fun KC hKC => ?_) ?_
              · go_simp
                have z32 := z31.next (below_alloc (Below.refl _ _) (.cells #[.int .i64 0, .bool false, .string ⟨#[]⟩, .string ⟨#[]⟩] 31))
                have z32l := (show (_ : World).heap[z31w.heap.size]? = some (.cells #[.int .i64 0, .bool false, .string ⟨#[]⟩, .string ⟨#[]⟩] 31) from blk_new z31w (.cells #[.int .i64 0, .bool false, .string ⟨#[]⟩, .string ⟨#[]⟩] 31))
                have z32t : B11 < z31w.heap.size := blk_lt z31.bs
                have z32k := blk_alloc z31k (.cells #[.int .i64 0, .bool false, .string ⟨#[]⟩, .string ⟨#[]⟩] 31)
                have z32e : C12 ≠ z31w.heap.size := Nat.ne_of_lt (blk_lt z31k)
                refine hKC.out _ _ z32.ty (fun hHeld => ?_)
                clear hKC KC
                try simp only [Act.put, List.setIfInBounds_toArray, List.set_cons_zero, List.set_cons_succ]
                generalize hz32w : World.alloc z31w (.cells #[.int .i64 0, .bool false, .string ⟨#[]⟩, .string ⟨#[]⟩] 31) = z32w at *
                generalize hz32B : z31w.heap.size = C13 at *
                clear hz32w hz32B
                refine wpAnyH_ready (rs := [12]) (by kernel_rfl) (by simp) ?_
                refine AllReadyH.cons (at_drop rfl) (fun KC hKC => ?_) ?_
                · obtain ⟨⟨z33g0, z33g1, z33g2, z33g3⟩, z33f0, z33f1, z33f2, z33f3⟩ := cells4 z32k
                  go_simp
                  have z33 := z32.set4 z32k z29t (.int .i64 x1) (.bool x2) (.string x3) (.string x4)
                  have z33k := put4 z32k (.int .i64 x1) (.bool x2) (.string x3) (.string x4)
                  have z33l := far4 z32l (Ne.symm z32e) (.int .i64 x1) (.bool x2) (.string x3) (.string x4)
                  refine hKC.out _ _ z33.ty (fun hHeld => ?_)
                  clear hKC KC
                  try simp only [Act.put, List.setIfInBounds_toArray, List.set_cons_zero, List.set_cons_succ]
                  clear z33g0 z33g1 z33g2 z33g3 z33f0 z33f1 z33f2 z33f3
                  generalize hz33w : World.setCell (World.setCell (World.setCell (World.setCell z32w ⟨C12, 0, none⟩ (.int .i64 x1)) ⟨C12, 1, none⟩ (.bool x2)) ⟨C12, 2, none⟩ (.string x3)) ⟨C12, 3, none⟩ (.string x4) = z33w at *
                  clear hz33w
                  refine wpAnyH_ready (rs := [13]) (by kernel_rfl) (by simp) ?_
                  refine AllReadyH.cons (at_drop rfl) (fun KC hKC => ?_) ?_
                  · obtain ⟨⟨z34g0, z34g1, z34g2, z34g3⟩, z34f0, z34f1, z34f2, z34f3⟩ := cells4 z33l
                    go_simp
                    have z34 := z33.set4 z33l z32t (.int .i64 y1) (.bool y2) (.string y3) (.string y4)
                    have z34l := put4 z33l (.int .i64 y1) (.bool y2) (.string y3) (.string y4)
                    have z34k := far4 z33k z32e (.int .i64 y1) (.bool y2) (.string y3) (.string y4)
                    refine hKC.out _ _ z34.ty (fun hHeld => ?_)
                    clear hKC KC
                    try simp only [Act.put, List.setIfInBounds_toArray, List.set_cons_zero, List.set_cons_succ]
                    clear z34g0 z34g1 z34g2 z34g3 z34f0 z34f1 z34f2 z34f3
                    generalize hz34w : World.setCell (World.setCell (World.setCell (World.setCell z33w ⟨C13, 0, none⟩ (.int .i64 y1)) ⟨C13, 1, none⟩ (.bool y2)) ⟨C13, 2, none⟩ (.string y3)) ⟨C13, 3, none⟩ (.string y4) = z34w at *
                    clear hz34w
                    refine wpAnyH_done (by kernel_rfl) ?_ _
                    go_wp2_with fail
                    go_meet
                    exact ⟨_, _, rfl, rfl, z34, z34k, z34l⟩
                  exact AllReadyH.nil
                exact AllReadyH.nil
              exact AllReadyH.nil
            refine AllReadyH.cons (at_drop rfl) (fun KC hKC => ?_) ?_
            · go_simp
              have z35 := z30.next (below_alloc (Below.refl _ _) (.cells #[.int .i64 0, .bool false, .string ⟨#[]⟩, .string ⟨#[]⟩] 31))
              have z35l := (show (_ : World).heap[z30w.heap.size]? = some (.cells #[.int .i64 0, .bool false, .string ⟨#[]⟩, .string ⟨#[]⟩] 31) from blk_new z30w (.cells #[.int .i64 0, .bool false, .string ⟨#[]⟩, .string ⟨#[]⟩] 31))
              have z35t : B11 < z30w.heap.size := blk_lt z30.bs
              have z35k := blk_alloc z30k (.cells #[.int .i64 0, .bool false, .string ⟨#[]⟩, .string ⟨#[]⟩] 31)
              have z35e : C12 ≠ z30w.heap.size := Nat.ne_of_lt (blk_lt z30k)
              refine hKC.out _ _ z35.ty (fun hHeld => ?_)
              clear hKC KC
              try simp only [Act.put, List.setIfInBounds_toArray, List.set_cons_zero, List.set_cons_succ]
              generalize hz35w : World.alloc z30w (.cells #[.int .i64 0, .bool false, .string ⟨#[]⟩, .string ⟨#[]⟩] 31) = z35w at *
              generalize hz35B : z30w.heap.size = C13 at *
              clear hz35w hz35B
              refine wpAnyH_ready (rs := [9]) (by kernel_rfl) (by simp) ?_
              refine AllReadyH.cons (at_drop rfl) (fun KC hKC => ?_) ?_
              · go_simp
                (go_at_call 12; refine (HCB.out _ (HCCB.out _ z35.below)).mono ?_; rintro e z36w ⟨rfl, z36B⟩; have z36 := z35.next z36B)
                have z36k := blk_below z35k z36B
                have z36l := blk_below z35l z36B
                refine hKC.out _ _ z36.ty (fun hHeld => ?_)
                clear hKC KC
                try simp only [Act.put, List.setIfInBounds_toArray, List.set_cons_zero, List.set_cons_succ]
                refine wpAnyH_ready (rs := [12]) (by kernel_rfl) (by simp) ?_
                refine AllReadyH.cons (at_drop rfl) (fun KC hKC => ?_) ?_
                · obtain ⟨⟨z37g0, z37g1, z37g2, z37g3⟩, z37f0, z37f1, z37f2, z37f3⟩ := cells4 z36k
                  go_simp
                  have z37 := z36.set4 z36k z29t (.int .i64 x1) (.bool x2) (.string x3) (.string x4)
                  have z37k := put4 z36k (.int .i64 x1) (.bool x2) (.string x3) (.string x4)
                  have z37l := far4 z36l (Ne.symm z35e) (.int .i64 x1) (.bool x2) (.string x3) (.string x4)
                  refine hKC.out _ _ z37.ty (fun hHeld => ?_)
                  clear hKC KC
                  try simp only [Act.put, List.setIfInBounds_toArray, List.set_cons_zero, List.set_cons_succ]
                  clear z37g0 z37g1 z37g2 z37g3 z37f0 z37f1 z37f2 z37f3
                  generalize hz37w : World.setCell (World.setCell (World.setCell (World.setCell z36w ⟨C12, 0, none⟩ (.int .i64 x1)) ⟨C12, 1, none⟩ (.bool x2)) ⟨C12, 2, none⟩ (.string x3)) ⟨C12, 3, none⟩ (.string x4) = z37w at *
                  clear hz37w
                  refine wpAnyH_ready (rs := [13]) (by kernel_rfl) (by simp) ?_
                  refine AllReadyH.cons (at_drop rfl) (fun KC hKC => ?_) ?_
                  · obtain ⟨⟨z38g0, z38g1, z38g2, z38g3⟩, z38f0, z38f1, z38f2, z38f3⟩ := cells4 z37l
                    go_simp
                    have z38 := z37.set4 z37l z35t (.int .i64 y1) (.bool y2) (.string y3) (.string y4)
                    have z38l := put4 z37l (.int .i64 y1) (.bool y2) (.string y3) (.string y4)
                    have z38k := far4 z37k z35e (.int .i64 y1) (.bool y2) (.string y3) (.string y4)
                    refine hKC.out _ _ z38.ty (fun hHeld => ?_)
                    clear hKC KC
                    try simp only [Act.put, List.setIfInBounds_toArray, List.set_cons_zero, List.set_cons_succ]
                    clear z38g0 z38g1 z38g2 z38g3 z38f0 z38f1 z38f2 z38f3
                    generalize hz38w : World.setCell (World.setCell (World.setCell (World.setCell z37w ⟨C13, 0, none⟩ (.int .i64 y1)) ⟨C13, 1, none⟩ (.bool y2)) ⟨C13, 2, none⟩ (.string y3)) ⟨C13, 3, none⟩ (.string y4) = z38w at *
                    clear hz38w
                    refine wpAnyH_done (by kernel_rfl) ?_ _
                    go_wp2_with fail
                    go_meet
                    exact ⟨_, _, rfl, rfl, z38, z38k, z38l⟩
                  exact AllReadyH.nil
                exact AllReadyH.nil
              exact AllReadyH.nil
            exact AllReadyH.nil
          refine AllReadyH.cons (at_drop rfl) (fun KC hKC => ?_) ?_
          · go_simp
            have z39 := z29.next (below_alloc (Below.refl _ _) (.cells #[.int .i64 0, .bool false, .string ⟨#[]⟩, .string ⟨#[]⟩] 31))
            have z39l := (show (_ : World).heap[z29w.heap.size]? = some (.cells #[.int .i64 0, .bool false, .string ⟨#[]⟩, .string ⟨#[]⟩] 31) from blk_new z29w (.cells #[.int .i64 0, .bool false, .string ⟨#[]⟩, .string ⟨#[]⟩] 31))
            have z39t : B11 < z29w.heap.size := blk_lt z29.bs
            have z39k := blk_alloc z29k (.cells #[.int .i64 0, .bool false, .string ⟨#[]⟩, .string ⟨#[]⟩] 31)
            have z39e : C12 ≠ z29w.heap.size := Nat.ne_of_lt (blk_lt z29k)
            refine hKC.out _ _ z39.ty (fun hHeld => ?_)
            clear hKC KC
            try simp only [Act.put, List.setIfInBounds_toArray, List.set_cons_zero, List.set_cons_succ]
            generalize hz39w : World.alloc z29w (.cells #[.int .i64 0, .bool false, .string ⟨#[]⟩, .string ⟨#[]⟩] 31) = z39w at *
            generalize hz39B : z29w.heap.size = C13 at *
            clear hz39w hz39B
            refine wpAnyH_ready (rs := [4]) (by kernel_rfl) (by simp) ?_
            refine AllReadyH.cons (at_drop rfl) (fun KC hKC => ?_) ?_
            · go_simp
              (go_at_call 12; refine (HCA.out _ (HCCA.out _ z39.below)).mono ?_; rintro e z40w ⟨rfl, z40B⟩; have z40 := z39.next z40B)
              have z40k := blk_below z39k z40B
              have z40l := blk_below z39l z40B
              refine hKC.out _ _ z40.ty (fun hHeld => ?_)
              clear hKC KC
              try simp only [Act.put, List.setIfInBounds_toArray, List.set_cons_zero, List.set_cons_succ]
              refine wpAnyH_ready (rs := [9]) (by kernel_rfl) (by simp) ?_
              refine AllReadyH.cons (at_drop rfl) (fun KC hKC => ?_) ?_
              · go_simp
                (go_at_call 12; refine (HCB.out _ (HCCB.out _ z40.below)).mono ?_; rintro e z41w ⟨rfl, z41B⟩; have z41 := z40.next z41B)
                have z41k := blk_below z40k z41B
                have z41l := blk_below z40l z41B
                refine hKC.out _ _ z41.ty (fun hHeld => ?_)
                clear hKC KC
                try simp only [Act.put, List.setIfInBounds_toArray, List.set_cons_zero, List.set_cons_succ]
                refine wpAnyH_ready (rs := [12]) (by kernel_rfl) (by simp) ?_
                refine AllReadyH.cons (at_drop rfl) (fun KC hKC => ?_) ?_
                · obtain ⟨⟨z42g0, z42g1, z42g2, z42g3⟩, z42f0, z42f1, z42f2, z42f3⟩ := cells4 z41k
                  go_simp
                  have z42 := z41.set4 z41k z29t (.int .i64 x1) (.bool x2) (.string x3) (.string x4)
                  have z42k := put4 z41k (.int .i64 x1) (.bool x2) (.string x3) (.string x4)
                  have z42l := far4 z41l (Ne.symm z39e) (.int .i64 x1) (.bool x2) (.string x3) (.string x4)
                  refine hKC.out _ _ z42.ty (fun hHeld => ?_)
                  clear hKC KC
                  try simp only [Act.put, List.setIfInBounds_toArray, List.set_cons_zero, List.set_cons_succ]
                  clear z42g0 z42g1 z42g2 z42g3 z42f0 z42f1 z42f2 z42f3
                  generalize hz42w : World.setCell (World.setCell (World.setCell (World.setCell z41w ⟨C12, 0, none⟩ (.int .i64 x1)) ⟨C12, 1, none⟩ (.bool x2)) ⟨C12, 2, none⟩ (.string x3)) ⟨C12, 3, none⟩ (.string x4) = z42w at *
                  clear hz42w
                  refine wpAnyH_ready (rs := [13]) (by kernel_rfl) (by simp) ?_
                  refine AllReadyH.cons (at_drop rfl) (fun KC hKC => ?_) ?_
                  · obtain ⟨⟨z43g0, z43g1, z43g2, z43g3⟩, z43f0, z43f1, z43f2, z43f3⟩ := cells4 z42l
                    go_simp
                    have z43 := z42.set4 z42l z39t (.int .i64 y1) (.bool y2) (.string y3) (.string y4)
                    have z43l := put4 z42l (.int .i64 y1) (.bool y2) (.string y3) (.string y4)
                    have z43k := far4 z42k z39e (.int .i64 y1) (.bool y2) (.string y3) (.string y4)
                    refine hKC.out _ _ z43.ty (fun hHeld => ?_)
                    clear hKC KC
                    try simp only [Act.put, List.setIfInBounds_toArray, List.set_cons_zero, List.set_cons_succ]
                    clear z43g0 z43g1 z43g2 z43g3 z43f0 z43f1 z43f2 z43f3
                    generalize hz43w : World.setCell (World.setCell (World.setCell (World.setCell z42w ⟨C13, 0, none⟩ (.int .i64 y1)) ⟨C13, 1, none⟩ (.bool y2)) ⟨C13, 2, none⟩ (.string y3)) ⟨C13, 3, none⟩ (.string y4) = z43w at *
                    clear hz43w
                    refine wpAnyH_done (by kernel_rfl) ?_ _
                    go_wp2_with fail
                    go_meet
                    exact ⟨_, _, rfl, rfl, z43, z43k, z43l⟩
                  exact AllReadyH.nil
                exact AllReadyH.nil
              exact AllReadyH.nil
            exact AllReadyH.nil
          exact AllReadyH.nil
        refine AllReadyH.cons (at_drop rfl) (fun KC hKC => ?_) ?_
        · go_simp
          have z44 := hqd.next (below_alloc (Below.refl _ _) (.cells #[.int .i64 0, .bool false, .string ⟨#[]⟩, .string ⟨#[]⟩] 31))
          have z44l := (show (_ : World).heap[wd.heap.size]? = some (.cells #[.int .i64 0, .bool false, .string ⟨#[]⟩, .string ⟨#[]⟩] 31) from blk_new wd (.cells #[.int .i64 0, .bool false, .string ⟨#[]⟩, .string ⟨#[]⟩] 31))
          have z44t : B11 < wd.heap.size := blk_lt hqd.bs
          refine hKC.out _ _ z44.ty (fun hHeld => ?_)
          clear hKC KC
          try simp only [Act.put, List.setIfInBounds_toArray, List.set_cons_zero, List.set_cons_succ]
          generalize hz44w : World.alloc wd (.cells #[.int .i64 0, .bool false, .string ⟨#[]⟩, .string ⟨#[]⟩] 31) = z44w at *
          generalize hz44B : wd.heap.size = C13 at *
          clear hz44w hz44B
          refine wpAnyH_ready (rs := [4, 10]) (by kernel_rfl) (by simp) ?_
          refine AllReadyH.cons (at_drop rfl) (fun KC hKC => ?_) ?_
          · go_simp
            (go_at_call 12; refine (HCA.out _ (HCCA.out _ z44.below)).mono ?_; rintro e z45w ⟨rfl, z45B⟩; have z45 := z44.next z45B)
            have z45l := blk_below z44l z45B
            refine hKC.out _ _ z45.ty (fun hHeld => ?_)
            clear hKC KC
            try simp only [Act.put, List.setIfInBounds_toArray, List.set_cons_zero, List.set_cons_succ]
            refine wpAnyH_ready (rs := [9, 10]) (by kernel_rfl) (by simp) ?_
            refine AllReadyH.cons (at_drop rfl) (fun KC hKC => ?_) ?_
            · go_simp
              (go_at_call 12; refine (HCB.out _ (HCCB.out _ z45.below)).mono ?_; rintro e z46w ⟨rfl, z46B⟩; have z46 := z45.next z46B)
              have z46l := blk_below z45l z46B
              refine hKC.out _ _ z46.ty (fun hHeld => ?_)
              clear hKC KC
              try simp only [Act.put, List.setIfInBounds_toArray, List.set_cons_zero, List.set_cons_succ]
              refine wpAnyH_ready (rs := [10]) (by kernel_rfl) (by simp) ?_
              refine AllReadyH.cons (at_drop rfl) (fun KC hKC => ?_) ?_
              · go_simp
                have z47 := z46.next (below_alloc (Below.refl _ _) (.cells #[.int .i64 0, .bool false, .string ⟨#[]⟩, .string ⟨#[]⟩] 31))
                have z47k := (show (_ : World).heap[z46w.heap.size]? = some (.cells #[.int .i64 0, .bool false, .string ⟨#[]⟩, .string ⟨#[]⟩] 31) from blk_new z46w (.cells #[.int .i64 0, .bool false, .string ⟨#[]⟩, .string ⟨#[]⟩] 31))
                have z47t : B11 < z46w.heap.size := blk_lt z46.bs
                have z47l := blk_alloc z46l (.cells #[.int .i64 0, .bool false, .string ⟨#[]⟩, .string ⟨#[]⟩] 31)
                have z47e : C13 ≠ z46w.heap.size := Nat.ne_of_lt (blk_lt z46l)
                refine hKC.out _ _ z47.ty (fun hHeld => ?_)
                clear hKC KC
                try simp only [Act.put, List.setIfInBounds_toArray, List.set_cons_zero, List.set_cons_succ]
                generalize hz47w : World.alloc z46w (.cells #[.int .i64 0, .bool false, .string ⟨#[]⟩, .string ⟨#[]⟩] 31) = z47w at *
                generalize hz47B : z46w.heap.size = C12 at *
                clear hz47w hz47B
                refine wpAnyH_ready (rs := [12]) (by kernel_rfl) (by simp) ?_
                refine AllReadyH.cons (at_drop rfl) (fun KC hKC => ?_) ?_
                · obtain ⟨⟨z48g0, z48g1, z48g2, z48g3⟩, z48f0, z48f1, z48f2, z48f3⟩ := cells4 z47k
                  go_simp
                  have z48 := z47.set4 z47k z47t (.int .i64 x1) (.bool x2) (.string x3) (.string x4)
                  have z48k := put4 z47k (.int .i64 x1) (.bool x2) (.string x3) (.string x4)
                  have z48l := far4 z47l z47e (.int .i64 x1) (.bool x2) (.string x3) (.string x4)
                  refine hKC.out _ _ z48.ty (fun hHeld => ?_)
                  clear hKC KC
                  try simp only [Act.put, List.setIfInBounds_toArray, List.set_cons_zero, List.set_cons_succ]
                  clear z48g0 z48g1 z48g2 z48g3 z48f0 z48f1 z48f2 z48f3
                  generalize hz48w : World.setCell (World.setCell (World.setCell (World.setCell z47w ⟨C12, 0, none⟩ (.int .i64 x1)) ⟨C12, 1, none⟩ (.bool x2)) ⟨C12, 2, none⟩ (.string x3)) ⟨C12, 3, none⟩ (.string x4) = z48w at *
                  clear hz48w
                  refine wpAnyH_ready (rs := [13]) (by kernel_rfl) (by simp) ?_
                  refine AllReadyH.cons (at_drop rfl) (fun KC hKC => ?_) ?_
                  · obtain ⟨⟨z49g0, z49g1, z49g2, z49g3⟩, z49f0, z49f1, z49f2, z49f3⟩ := cells4 z48l
                    go_simp
                    have z49 := z48.set4 z48l z44t (.int .i64 y1) (.bool y2) (.string y3) (.string y4)
                    have z49l := put4 z48l (.int .i64 y1) (.bool y2) (.string y3) (.string y4)
                    have z49k := far4 z48k (Ne.symm z47e) (.int .i64 y1) (.bool y2) (.string y3) (.string y4)
                    refine hKC.out _ _ z49.ty (fun hHeld => ?_)
                    clear hKC KC
                    try simp only [Act.put, List.setIfInBounds_toArray, List.set_cons_zero, List.set_cons_succ]
                    clear z49g0 z49g1 z49g2 z49g3 z49f0 z49f1 z49f2 z49f3
                    generalize hz49w : World.setCell (World.setCell (World.setCell (World.setCell z48w ⟨C13, 0, none⟩ (.int .i64 y1)) ⟨C13, 1, none⟩ (.bool y2)) ⟨C13, 2, none⟩ (.string y3)) ⟨C13, 3, none⟩ (.string y4) = z49w at *
                    clear hz49w
                    refine wpAnyH_done (by kernel_rfl) ?_ _
                    go_wp2_with fail
                    go_meet
                    exact ⟨_, _, rfl, rfl, z49, z49k, z49l⟩
                  exact AllReadyH.nil
                exact AllReadyH.nil
              exact AllReadyH.nil
            refine AllReadyH.cons (at_drop rfl) (fun KC hKC => ?_) ?_
            · go_simp
              have z50 := z45.next (below_alloc (Below.refl _ _) (.cells #[.int .i64 0, .bool false, .string ⟨#[]⟩, .string ⟨#[]⟩] 31))
              have z50k := (show (_ : World).heap[z45w.heap.size]? = some (.cells #[.int .i64 0, .bool false, .string ⟨#[]⟩, .string ⟨#[]⟩] 31) from blk_new z45w (.cells #[.int .i64 0, .bool false, .string ⟨#[]⟩, .string ⟨#[]⟩] 31))
              have z50t : B11 < z45w.heap.size := blk_lt z45.bs
              have z50l := blk_alloc z45l (.cells #[.int .i64 0, .bool false, .string ⟨#[]⟩, .string ⟨#[]⟩] 31)
              have z50e : C13 ≠ z45w.heap.size := Nat.ne_of_lt (blk_lt z45l)
              refine hKC.out _ _ z50.ty (fun hHeld => ?_)
              clear hKC KC
              try simp only [Act.put, List.setIfInBounds_toArray, List.set_cons_zero, List.set_cons_succ]
              generalize hz50w : World.alloc z45w (.cells #[.int .i64 0, .bool false, .string ⟨#[]⟩, .string ⟨#[]⟩] 31) = z50w at *
              generalize hz50B : z45w.heap.size = C12 at *
              clear hz50w hz50B
              refine wpAnyH_ready (rs := [9]) (by kernel_rfl) (by simp) ?_
              refine AllReadyH.cons (at_drop rfl) (fun KC hKC => ?_) ?_
              · go_simp
                (go_at_call 12; refine (HCB.out _ (HCCB.out _ z50.below)).mono ?_; rintro e z51w ⟨rfl, z51B⟩; have z51 := z50.next z51B)
                have z51k := blk_below z50k z51B
                have z51l := blk_below z50l z51B
                refine hKC.out _ _ z51.ty (fun hHeld => ?_)
                clear hKC KC
                try simp only [Act.put, List.setIfInBounds_toArray, List.set_cons_zero, List.set_cons_succ]
                refine wpAnyH_ready (rs := [12]) (by kernel_rfl) (by simp) ?_
                refine AllReadyH.cons (at_drop rfl) (fun KC hKC => ?_) ?_
                · obtain ⟨⟨z52g0, z52g1, z52g2, z52g3⟩, z52f0, z52f1, z52f2, z52f3⟩ := cells4 z51k
                  go_simp
                  have z52 := z51.set4 z51k z50t (.int .i64 x1) (.bool x2) (.string x3) (.string x4)
                  have z52k := put4 z51k (.int .i64 x1) (.bool x2) (.string x3) (.string x4)
                  have z52l := far4 z51l z50e (.int .i64 x1) (.bool x2) (.string x3) (.string x4)
                  refine hKC.out _ _ z52.ty (fun hHeld => ?_)
                  clear hKC KC
                  try simp only [Act.put, List.setIfInBounds_toArray, List.set_cons_zero, List.set_cons_succ]
                  clear z52g0 z52g1 z52g2 z52g3 z52f0 z52f1 z52f2 z52f3
                  generalize hz52w : World.setCell (World.setCell (World.setCell (World.setCell z51w ⟨C12, 0, none⟩ (.int .i64 x1)) ⟨C12, 1, none⟩ (.bool x2)) ⟨C12, 2, none⟩ (.string x3)) ⟨C12, 3, none⟩ (.string x4) = z52w at *
                  clear hz52w
                  refine wpAnyH_ready (rs := [13]) (by kernel_rfl) (by simp) ?_
                  refine AllReadyH.cons (at_drop rfl) (fun KC hKC => ?_) ?_
                  · obtain ⟨⟨z53g0, z53g1, z53g2, z53g3⟩, z53f0, z53f1, z53f2, z53f3⟩ := cells4 z52l
                    go_simp
                    have z53 := z52.set4 z52l z44t (.int .i64 y1) (.bool y2) (.string y3) (.string y4)
                    have z53l := put4 z52l (.int .i64 y1) (.bool y2) (.string y3) (.string y4)
                    have z53k := far4 z52k (Ne.symm z50e) (.int .i64 y1) (.bool y2) (.string y3) (.string y4)
                    refine hKC.out _ _ z53.ty (fun hHeld => ?_)
                    clear hKC KC
                    try simp only [Act.put, List.setIfInBounds_toArray, List.set_cons_zero, List.set_cons_succ]
                    clear z53g0 z53g1 z53g2 z53g3 z53f0 z53f1 z53f2 z53f3
                    generalize hz53w : World.setCell (World.setCell (World.setCell (World.setCell z52w ⟨C13, 0, none⟩ (.int .i64 y1)) ⟨C13, 1, none⟩ (.bool y2)) ⟨C13, 2, none⟩ (.string y3)) ⟨C13, 3, none⟩ (.string y4) = z53w at *
                    clear hz53w
                    refine wpAnyH_done (by kernel_rfl) ?_ _
                    go_wp2_with fail
                    go_meet
                    exact ⟨_, _, rfl, rfl, z53, z53k, z53l⟩
                  exact AllReadyH.nil
                exact AllReadyH.nil
              exact AllReadyH.nil
            exact AllReadyH.nil
          refine AllReadyH.cons (at_drop rfl) (fun KC hKC => ?_) ?_
          · go_simp
            have z54 := z44.next (below_alloc (Below.refl _ _) (.cells #[.int .i64 0, .bool false, .string ⟨#[]⟩, .string ⟨#[]⟩] 31))
            have z54k := (show (_ : World).heap[z44w.heap.size]? = some (.cells #[.int .i64 0, .bool false, .string ⟨#[]⟩, .string ⟨#[]⟩] 31) from blk_new z44w (.cells #[.int .i64 0, .bool false, .string ⟨#[]⟩, .string ⟨#[]⟩] 31))
            have z54t : B11 < z44w.heap.size := blk_lt z44.bs
            have z54l := blk_alloc z44l (.cells #[.int .i64 0, .bool false, .string ⟨#[]⟩, .string ⟨#[]⟩] 31)
            have z54e : C13 ≠ z44w.heap.size := Nat.ne_of_lt (blk_lt z44l)
            refine hKC.out _ _ z54.ty (fun hHeld => ?_)
            clear hKC KC
            try simp only [Act.put, List.setIfInBounds_toArray, List.set_cons_zero, List.set_cons_succ]
            generalize hz54w : World.alloc z44w (.cells #[.int .i64 0, .bool false, .string ⟨#[]⟩, .string ⟨#[]⟩] 31) = z54w at *
            generalize hz54B : z44w.heap.size = C12 at *
            clear hz54w hz54B
            refine wpAnyH_ready (rs := [4]) (by kernel_rfl) (by simp) ?_
            refine AllReadyH.cons (at_drop rfl) (fun KC hKC => ?_) ?_
            · go_simp
              (go_at_call 12; refine (HCA.out _ (HCCA.out _ z54.below)).mono ?_; rintro e z55w ⟨rfl, z55B⟩; have z55 := z54.next z55B)
              have z55k := blk_below z54k z55B
              have z55l := blk_below z54l z55B
              refine hKC.out _ _ z55.ty (fun hHeld => ?_)
              clear hKC KC
              try simp only [Act.put, List.setIfInBounds_toArray, List.set_cons_zero, List.set_cons_succ]
              refine wpAnyH_ready (rs := [9]) (by kernel_rfl) (by simp) ?_
              refine AllReadyH.cons (at_drop rfl) (fun KC hKC => ?_) ?_
              · go_simp
                (go_at_call 12; refine (HCB.out _ (HCCB.out _ z55.below)).mono ?_; rintro e z56w ⟨rfl, z56B⟩; have z56 := z55.next z56B)
                have z56k := blk_below z55k z56B
                have z56l := blk_below z55l z56B
                refine hKC.out _ _ z56.ty (fun hHeld => ?_)
                clear hKC KC
                try simp only [Act.put, List.setIfInBounds_toArray, List.set_cons_zero, List.set_cons_succ]
                refine wpAnyH_ready (rs := [12]) (by kernel_rfl) (by simp) ?_
                refine AllReadyH.cons (at_drop rfl) (fun KC hKC => ?_) ?_
                · obtain ⟨⟨z57g0, z57g1, z57g2, z57g3⟩, z57f0, z57f1, z57f2, z57f3⟩ := cells4 z56k
                  go_simp
                  have z57 := z56.set4 z56k z54t (.int .i64 x1) (.bool x2) (.string x3) (.string x4)
                  have z57k := put4 z56k (.int .i64 x1) (.bool x2) (.string x3) (.string x4)
                  have z57l := far4 z56l z54e (.int .i64 x1) (.bool x2) (.string x3) (.string x4)
                  refine hKC.out _ _ z57.ty (fun hHeld => ?_)
                  clear hKC KC
                  try simp only [Act.put, List.setIfInBounds_toArray, List.set_cons_zero, List.set_cons_succ]
                  clear z57g0 z57g1 z57g2 z57g3 z57f0 z57f1 z57f2 z57f3
                  generalize hz57w : World.setCell (World.setCell (World.setCell (World.setCell z56w ⟨C12, 0, none⟩ (.int .i64 x1)) ⟨C12, 1, none⟩ (.bool x2)) ⟨C12, 2, none⟩ (.string x3)) ⟨C12, 3, none⟩ (.string x4) = z57w at *
                  clear hz57w
                  refine wpAnyH_ready (rs := [13]) (by kernel_rfl) (by simp) ?_
                  refine AllReadyH.cons (at_drop rfl) (fun KC hKC => ?_) ?_
                  · obtain ⟨⟨z58g0, z58g1, z58g2, z58g3⟩, z58f0, z58f1, z58f2, z58f3⟩ := cells4 z57l
                    go_simp
                    have z58 := z57.set4 z57l z44t (.int .i64 y1) (.bool y2) (.string y3) (.string y4)
                    have z58l := put4 z57l (.int .i64 y1) (.bool y2) (.string y3) (.string y4)
                    have z58k := far4 z57k (Ne.symm z54e) (.int .i64 y1) (.bool y2) (.string y3) (.string y4)
                    refine hKC.out _ _ z58.ty (fun hHeld => ?_)
                    clear hKC KC
                    try simp only [Act.put, List.setIfInBounds_toArray, List.set_cons_zero, List.set_cons_succ]
                    clear z58g0 z58g1 z58g2 z58g3 z58f0 z58f1 z58f2 z58f3
                    generalize hz58w : World.setCell (World.setCell (World.setCell (World.setCell z57w ⟨C13, 0, none⟩ (.int .i64 y1)) ⟨C13, 1, none⟩ (.bool y2)) ⟨C13, 2, none⟩ (.string y3)) ⟨C13, 3, none⟩ (.string y4) = z58w at *
                    clear hz58w
                    refine wpAnyH_done (by kernel_rfl) ?_ _
                    go_wp2_with fail
                    go_meet
                    exact ⟨_, _, rfl, rfl, z58, z58k, z58l⟩
                  exact AllReadyH.nil
                exact AllReadyH.nil
              exact AllReadyH.nil
            exact AllReadyH.nil
          exact AllReadyH.nil
        exact AllReadyH.nil
      case rest =>
        clear hq hqd
        obtain ⟨C12, C13, rfl, rfl, hq, k12, k13⟩ := hcut
        have hKA := hq.cells
        obtain ⟨hk0, hk1⟩ := hq.ty
        obtain ⟨⟨e0, e1, e2, e3⟩, _⟩ := cells4 k12
        obtain ⟨⟨f0, f1, f2, f3⟩, _⟩ := cells4 k13
        have HB := Aside0.mk hq.below
        go_wp2_with (first | ((with_reducible refine gate_dst (N := 103) rfl ?_); refine Kd.R_lit k31 _ 31 ?hg (N := 103) ?hd (xs := ([(⟨x1, x2, x3, x4⟩ : S31), (⟨y1, y2, y3, y4⟩ : S31)] : List S31)) (inner := [.int .i64 x1, .bool x2, .string x3, .string x4, .int .i64 y1, .bool y2, .string y3, .string y4]) (ok := fun _ => True) (okp := fun _ => True) ?hr ?hp (fun _ hk => hk) trivial (Below.refl _ _) (Nat.le_refl _) (by simp) ?_; (case hd => rfl); (case hg => rfl); (case hr => first | (go_simp; done) | (go_simp; rfl)); (case hp => exact (Reps.c4 (show Kd.M k31 _ _ _ (⟨x1, x2, x3, x4⟩ : S31) [.int .i64 x1, .bool x2, .string x3, .string x4] from (k31_mkM _ _ _ (⟨x1, x2, x3, x4⟩ : S31))) (Reps.c4 (show Kd.M k31 _ _ _ (⟨y1, y2, y3, y4⟩ : S31) [.int .i64 y1, .bool y2, .string y3, .string y4] from (k31_mkM _ _ _ (⟨y1, y2, y3, y4⟩ : S31))) (Reps.none _ _)))); intro vm1 wm1 hom1 hbm1 hg_ hnew_; clear hg_ hnew_; have hqm1 := hq.next hbm1; obtain ⟨Am1, cm1, eom1⟩ := Kd.R_slice hom1; subst eom1; have HOm1 := hom1; clear hom1; have htym1 := hqm1.ty; have htxm1 := htym1.1; have htym1 := htym1.2))
        have hA1 := (Kd.R_reads' HOm1).2.2
        have hA2 := (Kd.R_reads' HOm1).2.1
        have hcall := ranges_Join.calls k a0_0 a0_1 Am1 cm1 [(⟨x1, x2, x3, x4⟩ : S31), (⟨y1, y2, y3, y4⟩ : S31)] s1 s2 s3 s4 0 _ hA1 hA2 HPJ.out
        simp only [List.length_cons, List.length_nil, Nat.zero_add, Nat.reduceAdd] at hcall
        refine hcall.mono ?_
        rintro e v1 ⟨rfl, hV1⟩
        clear hcall hA1 hA2
        have hq2 := hqm1.next hV1
        clear hk0 hk1 e0 e1 e2 e3 f0 f1 f2 f3 hKA HB HOm1
        have k14 := blk_new v1 (.cells #[.int .i64 s1, .bool s2, .string s3, .string s4] 31)
        have hq3 := hq2.next (below_alloc (Below.refl _ _) (.cells #[.int .i64 s1, .bool s2, .string s3, .string s4] 31))
        go_upto_region 16 with (fail)
        generalize hX3 : v1.alloc (.cells #[.int .i64 s1, .bool s2, .string s3, .string s4] 31) = x3w at *
        generalize hB14 : v1.heap.size = B14 at *
        clear hX3 hB14 hq2 hqm1 hV1
        obtain ⟨e0, e1, e2, e3⟩ := hq3.cells
        obtain ⟨hk0, hk1⟩ := hq3.ty
        go_wp2_with (first | ((with_reducible refine gate_dst (N := 110) rfl ?_); refine Kd.R_lit k31 _ 31 ?hg (N := 110) ?hd (xs := ([(⟨s1, s2, s3, s4⟩ : S31)] : List S31)) (inner := [.int .i64 s1, .bool s2, .string s3, .string s4]) (ok := fun _ => True) (okp := fun _ => True) ?hr ?hp (fun _ hk => hk) trivial (Below.refl _ _) (Nat.le_refl _) (by simp) ?_; (case hd => rfl); (case hg => rfl); (case hr => first | (go_simp; done) | (go_simp; rfl)); (case hp => exact (Reps.c4 (show Kd.M k31 _ _ _ (⟨s1, s2, s3, s4⟩ : S31) [.int .i64 s1, .bool s2, .string s3, .string s4] from (k31_mkM _ _ _ (⟨s1, s2, s3, s4⟩ : S31))) (Reps.none _ _))); intro vm2 wm2 hom2 hbm2 hg_ hnew_; clear hg_ hnew_; have hqm2 := hq3.next hbm2; obtain ⟨Am2, cm2, eom2⟩ := Kd.R_slice hom2; subst eom2; have HOm2 := hom2; clear hom2; have htym2 := hqm2.ty; have htxm2 := htym2.1; have htym2 := htym2.2))
        have hA1 := (Kd.R_reads' HOm2).2.2
        have hA2 := (Kd.R_reads' HOm2).2.1
        have hcall := ranges_Join.calls k a0_0 a0_1 Am2 cm2 [(⟨s1, s2, s3, s4⟩ : S31)] s1 s2 s3 s4 0 _ hA1 hA2 HOJ.out
        simp only [List.length_cons, List.length_nil, Nat.zero_add, Nat.reduceAdd] at hcall
        refine hcall.mono ?_
        rintro e v2 ⟨rfl, hV2⟩
        clear hcall hA1 hA2
        have hq4 := hqm2.next hV2
        have k14b := blk_below (blk_below k14 hbm2) hV2
        clear hk0 hk1 e0 e1 e2 e3 HOm2
        have k16 := blk_new v2 (.cells #[.int .i64 s1, .bool s2, .string s3, .string s4] 31)
        have hq5 := hq4.next (below_alloc (Below.refl _ _) (.cells #[.int .i64 s1, .bool s2, .string s3, .string s4] 31))
        have k14c := blk_alloc k14b (.cells #[.int .i64 s1, .bool s2, .string s3, .string s4] 31)
        go_upto_region 17 with (fail)
        generalize hX4 : v2.alloc (.cells #[.int .i64 s1, .bool s2, .string s3, .string s4] 31) = x4w at *
        generalize hB16 : v2.heap.size = B16 at *
        clear hX4 hB16 hq4 hqm2 hV2 k14 k14b
        obtain ⟨Ar, cr, eur, hcr, hCr⟩ := Kd.R_reads hq5.hr
        subst eur
        have hz := RkZ.mk hq5 k14c k16
        have hzd := hz.next (below_drew (Below.refl _ _))
        have hcallR := ranges_Of.calls a0_0 a0_1 Ar cr l1.reverse 3 s1 s2 s3 s4 _ (Kd.R_reads' hzd.q.hr).2.2 hcr HRV.out
        simp only [List.length_reverse] at hcallR
        have HCR := Lib.hid hcallR
        clear hcallR
        refine wp_region_held_drew (S := (fun W => (W.cell? ⟨w.heap.size, 0, none⟩ = some (.int .i64 a0_0) ∧ W.cell? ⟨w.heap.size, 1, none⟩ = some (.int .i64 a0_1)) ∧ (W.cell? ⟨B11, 0, none⟩ = some (.int .i64 s1) ∧ W.cell? ⟨B11, 1, none⟩ = some (.bool s2) ∧ W.cell? ⟨B11, 2, none⟩ = some (.string s3) ∧ W.cell? ⟨B11, 3, none⟩ = some (.string s4)) ∧ (W.cell? ⟨B14, 0, none⟩ = some (.int .i64 s1) ∧ W.cell? ⟨B14, 1, none⟩ = some (.bool s2) ∧ W.cell? ⟨B14, 2, none⟩ = some (.string s3) ∧ W.cell? ⟨B14, 3, none⟩ = some (.string s4)) ∧ (W.cell? ⟨B16, 0, none⟩ = some (.int .i64 s1) ∧ W.cell? ⟨B16, 1, none⟩ = some (.bool s2) ∧ W.cell? ⟨B16, 2, none⟩ = some (.string s3) ∧ W.cell? ⟨B16, 3, none⟩ = some (.string s4)))) (by kernel_rfl) hzd.held (fun hHeld => ?_)
        refine tkY 0 (some 114) rfl rfl (by kernel_rfl) (by kernel_rfl) (by kernel_rfl) (fun _ _ _ h => h) (by rfl) (v := ?tkvg0) ?tkyg0 (by assumption) rfl ?tkrg0
        case tkyg0 =>
          intro W' hSw
          try dsimp only at hSw
          go_simp
          first | done | with_reducible rfl
        simp only [Act.put, List.setIfInBounds_toArray, List.set_cons_zero, List.set_cons_succ]
        refine tkY 1 (some 115) rfl rfl (by kernel_rfl) (by kernel_rfl) (by kernel_rfl) (fun _ _ _ h => h) (by rfl) (v := ?tkvg1) ?tkyg1 (by assumption) rfl ?tkrg1
        case tkyg1 =>
          intro W' hSw
          try dsimp only at hSw
          go_simp
          first | done | with_reducible rfl
        simp only [Act.put, List.setIfInBounds_toArray, List.set_cons_zero, List.set_cons_succ]
        refine tkY 2 (some 116) rfl rfl (by kernel_rfl) (by kernel_rfl) (by kernel_rfl) (fun _ _ _ h => h) (by rfl) (v := ?tkvg2) ?tkyg2 (by assumption) rfl ?tkrg2
        case tkyg2 =>
          intro W' hSw
          try dsimp only at hSw
          go_simp
          first | done | with_reducible rfl
        simp only [Act.put, List.setIfInBounds_toArray, List.set_cons_zero, List.set_cons_succ]
        refine wpAnyH_ready (rs := [3]) (by kernel_rfl) (by simp) (AllReadyH.cons (at_drop rfl) (fun KC hKC => ?_) AllReadyH.nil)
        go_simp
        (go_at_call 12; refine HCR.out.mono ?_; rintro e u1 ⟨rfl, hU1⟩; have hz1 := hzd.next hU1)
        refine hKC.out _ _ hz1.held (fun hHeld => ?_)
        clear hKC KC
        try simp only [Act.put, List.setIfInBounds_toArray, List.set_cons_zero, List.set_cons_succ]
        refine tkY 4 (some 118) rfl rfl (by kernel_rfl) (by kernel_rfl) (by kernel_rfl) (fun _ _ _ h => h) (by rfl) (v := ?tkvg4) ?tkyg4 (by assumption) rfl ?tkrg4
        case tkyg4 =>
          intro W' hSw
          try dsimp only at hSw
          go_simp
          first | done | with_reducible rfl
        simp only [Act.put, List.setIfInBounds_toArray, List.set_cons_zero, List.set_cons_succ]
        refine tkY 5 (some 119) rfl rfl (by kernel_rfl) (by kernel_rfl) (by kernel_rfl) (fun _ _ _ h => h) (by rfl) (v := ?tkvg5) ?tkyg5 (by assumption) rfl ?tkrg5
        case tkyg5 =>
          intro W' hSw
          try dsimp only at hSw
          go_simp
          first | done | with_reducible rfl
        simp only [Act.put, List.setIfInBounds_toArray, List.set_cons_zero, List.set_cons_succ]
        refine tkY 6 (some 120) rfl rfl (by kernel_rfl) (by kernel_rfl) (by kernel_rfl) (fun _ _ _ h => h) (by rfl) (v := ?tkvg6) ?tkyg6 (by assumption) rfl ?tkrg6
        case tkyg6 =>
          intro W' hSw
          try dsimp only at hSw
          go_simp
          first | done | with_reducible rfl
        simp only [Act.put, List.setIfInBounds_toArray, List.set_cons_zero, List.set_cons_succ]
        refine tkY 7 (some 121) rfl rfl (by kernel_rfl) (by kernel_rfl) (by kernel_rfl) (fun _ _ _ h => h) (by rfl) (v := ?tkvg7) ?tkyg7 (by assumption) rfl ?tkrg7
        case tkyg7 =>
          intro W' hSw
          try dsimp only at hSw
          go_simp
          first | done | with_reducible rfl
        simp only [Act.put, List.setIfInBounds_toArray, List.set_cons_zero, List.set_cons_succ]
        refine tkY 8 (some 122) rfl rfl (by kernel_rfl) (by kernel_rfl) (by kernel_rfl) (fun _ _ _ h => h) (by rfl) (v := ?tkvg8) ?tkyg8 (by assumption) rfl ?tkrg8
        case tkyg8 =>
          intro W' hSw
          try dsimp only at hSw
          go_simp
          first | done | with_reducible rfl
        simp only [Act.put, List.setIfInBounds_toArray, List.set_cons_zero, List.set_cons_succ]
        refine tkY 9 (some 123) rfl rfl (by kernel_rfl) (by kernel_rfl) (by kernel_rfl) (fun _ _ _ h => h) (by rfl) (v := ?tkvg9) ?tkyg9 (by assumption) rfl ?tkrg9
        case tkyg9 =>
          intro W' hSw
          try dsimp only at hSw
          go_simp
          first | done | with_reducible rfl
        simp only [Act.put, List.setIfInBounds_toArray, List.set_cons_zero, List.set_cons_succ]
        refine tkY 10 (some 124) rfl rfl (by kernel_rfl) (by kernel_rfl) (by kernel_rfl) (fun _ _ _ h => h) (by rfl) (v := ?tkvg10) ?tkyg10 (by assumption) rfl ?tkrg10
        case tkyg10 =>
          intro W' hSw
          try dsimp only at hSw
          go_simp
          first | done | with_reducible rfl
        simp only [Act.put, List.setIfInBounds_toArray, List.set_cons_zero, List.set_cons_succ]
        refine tkY 11 (some 125) rfl rfl (by kernel_rfl) (by kernel_rfl) (by kernel_rfl) (fun _ _ _ h => h) (by rfl) (v := ?tkvg11) ?tkyg11 (by assumption) rfl ?tkrg11
        case tkyg11 =>
          intro W' hSw
          try dsimp only at hSw
          go_simp
          first | done | with_reducible rfl
        simp only [Act.put, List.setIfInBounds_toArray, List.set_cons_zero, List.set_cons_succ]
        refine wpAnyH_ready (rs := [12]) (by kernel_rfl) (by simp) (AllReadyH.cons (at_drop rfl) (fun KC hKC => ?_) AllReadyH.nil)
        go_simp
        (go_at_call 15; refine (marquetrylaw22_num.calls 0 _ _ rfl).mono ?_; rintro e hz2w ⟨rfl, hz2D⟩; have hz2 := hz1.next hz2D.below)
        refine hKC.out _ _ hz2.held (fun hHeld => ?_)
        clear hKC KC
        try simp only [Act.put, List.setIfInBounds_toArray, List.set_cons_zero, List.set_cons_succ]
        refine tkY 13 (some 127) rfl rfl (by kernel_rfl) (by kernel_rfl) (by kernel_rfl) (fun _ _ _ h => h) (by rfl) (v := ?tkvg13) ?tkyg13 (by assumption) rfl ?tkrg13
        case tkyg13 =>
          intro W' hSw
          try dsimp only at hSw
          go_simp
          first | done | with_reducible rfl
        simp only [Act.put, List.setIfInBounds_toArray, List.set_cons_zero, List.set_cons_succ]
        refine tkY 14 (some 128) rfl rfl (by kernel_rfl) (by kernel_rfl) (by kernel_rfl) (fun _ _ _ h => h) (by rfl) (v := ?tkvg14) ?tkyg14 (by assumption) rfl ?tkrg14
        case tkyg14 =>
          intro W' hSw
          try dsimp only at hSw
          go_simp
          first | done | with_reducible rfl
        simp only [Act.put, List.setIfInBounds_toArray, List.set_cons_zero, List.set_cons_succ]
        refine tkY 15 (some 129) rfl rfl (by kernel_rfl) (by kernel_rfl) (by kernel_rfl) (fun _ _ _ h => h) (by rfl) (v := ?tkvg15) ?tkyg15 (by assumption) rfl ?tkrg15
        case tkyg15 =>
          intro W' hSw
          try dsimp only at hSw
          go_simp
          first | done | with_reducible rfl
        simp only [Act.put, List.setIfInBounds_toArray, List.set_cons_zero, List.set_cons_succ]
        refine tkY 16 (some 130) rfl rfl (by kernel_rfl) (by kernel_rfl) (by kernel_rfl) (fun _ _ _ h => h) (by rfl) (v := ?tkvg16) ?tkyg16 (by assumption) rfl ?tkrg16
        case tkyg16 =>
          intro W' hSw
          try dsimp only at hSw
          go_simp
          first | done | with_reducible rfl
        simp only [Act.put, List.setIfInBounds_toArray, List.set_cons_zero, List.set_cons_succ]
        refine tkY 17 (some 131) rfl rfl (by kernel_rfl) (by kernel_rfl) (by kernel_rfl) (fun _ _ _ h => h) (by rfl) (v := ?tkvg17) ?tkyg17 (by assumption) rfl ?tkrg17
        case tkyg17 =>
          intro W' hSw
          try dsimp only at hSw
          go_simp
          first | done | with_reducible rfl
        simp only [Act.put, List.setIfInBounds_toArray, List.set_cons_zero, List.set_cons_succ]
        refine tkY 18 (some 132) rfl rfl (by kernel_rfl) (by kernel_rfl) (by kernel_rfl) (fun _ _ _ h => h) (by rfl) (v := ?tkvg18) ?tkyg18 (by assumption) rfl ?tkrg18
        case tkyg18 =>
          intro W' hSw
          try dsimp only at hSw
          go_simp
          first | done | with_reducible rfl
        simp only [Act.put, List.setIfInBounds_toArray, List.set_cons_zero, List.set_cons_succ]
        refine tkY 19 (some 133) rfl rfl (by kernel_rfl) (by kernel_rfl) (by kernel_rfl) (fun _ _ _ h => h) (by rfl) (v := ?tkvg19) ?tkyg19 (by assumption) rfl ?tkrg19
        case tkyg19 =>
          intro W' hSw
          try dsimp only at hSw
          go_simp
          first | done | with_reducible rfl
        simp only [Act.put, List.setIfInBounds_toArray, List.set_cons_zero, List.set_cons_succ]
        refine tkY 20 (some 134) rfl rfl (by kernel_rfl) (by kernel_rfl) (by kernel_rfl) (fun _ _ _ h => h) (by rfl) (v := ?tkvg20) ?tkyg20 (by assumption) rfl ?tkrg20
        case tkyg20 =>
          intro W' hSw
          try dsimp only at hSw
          go_simp
          first | done | with_reducible rfl
        simp only [Act.put, List.setIfInBounds_toArray, List.set_cons_zero, List.set_cons_succ]
        refine tkY 21 (some 135) rfl rfl (by kernel_rfl) (by kernel_rfl) (by kernel_rfl) (fun _ _ _ h => h) (by rfl) (v := ?tkvg21) ?tkyg21 (by assumption) rfl ?tkrg21
        case tkyg21 =>
          intro W' hSw
          try dsimp only at hSw
          go_simp
          first | done | with_reducible rfl
        simp only [Act.put, List.setIfInBounds_toArray, List.set_cons_zero, List.set_cons_succ]
        refine wpAnyH_ready (rs := [22]) (by kernel_rfl) (by simp) (AllReadyH.cons (at_drop rfl) (fun KC hKC => ?_) AllReadyH.nil)
        go_simp
        (go_at_call 15; refine (marquetrylaw22_num.calls 0 _ _ rfl).mono ?_; rintro e hz3w ⟨rfl, hz3D⟩; have hz3 := hz2.next hz3D.below)
        refine hKC.out _ _ hz3.held (fun hHeld => ?_)
        clear hKC KC
        try simp only [Act.put, List.setIfInBounds_toArray, List.set_cons_zero, List.set_cons_succ]
        refine tkY 23 (some 137) rfl rfl (by kernel_rfl) (by kernel_rfl) (by kernel_rfl) (fun _ _ _ h => h) (by rfl) (v := ?tkvg23) ?tkyg23 (by assumption) rfl ?tkrg23
        case tkyg23 =>
          intro W' hSw
          try dsimp only at hSw
          go_simp
          first | done | with_reducible rfl
        simp only [Act.put, List.setIfInBounds_toArray, List.set_cons_zero, List.set_cons_succ]
        refine tkY 24 (some 138) rfl rfl (by kernel_rfl) (by kernel_rfl) (by kernel_rfl) (fun _ _ _ h => h) (by rfl) (v := ?tkvg24) ?tkyg24 (by assumption) rfl ?tkrg24
        case tkyg24 =>
          intro W' hSw
          try dsimp only at hSw
          go_simp
          first | done | with_reducible rfl
        simp only [Act.put, List.setIfInBounds_toArray, List.set_cons_zero, List.set_cons_succ]
        refine tkY 25 (some 139) rfl rfl (by kernel_rfl) (by kernel_rfl) (by kernel_rfl) (fun _ _ _ h => h) (by rfl) (v := ?tkvg25) ?tkyg25 (by assumption) rfl ?tkrg25
        case tkyg25 =>
          intro W' hSw
          try dsimp only at hSw
          go_simp
          first | done | with_reducible rfl
        simp only [Act.put, List.setIfInBounds_toArray, List.set_cons_zero, List.set_cons_succ]
        refine wpAnyH_ready (rs := [26]) (by kernel_rfl) (by simp) (AllReadyH.cons (at_drop rfl) (fun KC hKC => ?_) AllReadyH.nil)
        go_simp
        (go_at_call 11; refine (marquetrylaw22_works.calls true _ rfl).mono ?_; rintro e u4 ⟨rfl, hU4⟩; have hz4 := hz3.next hU4)
        refine hKC.out _ _ hz4.held (fun hHeld => ?_)
        clear hKC KC
        try simp only [Act.put, List.setIfInBounds_toArray, List.set_cons_zero, List.set_cons_succ]
        refine tkY 27 (some 141) rfl rfl (by kernel_rfl) (by kernel_rfl) (by kernel_rfl) (fun _ _ _ h => h) (by rfl) (v := ?tkvg27) ?tkyg27 (by assumption) rfl ?tkrg27
        case tkyg27 =>
          intro W' hSw
          try dsimp only at hSw
          go_simp
          first | done | with_reducible rfl
        simp only [Act.put, List.setIfInBounds_toArray, List.set_cons_zero, List.set_cons_succ]
        refine wpAnyH_ready (rs := [28]) (by kernel_rfl) (by simp) (AllReadyH.cons (at_drop rfl) (fun KC hKC => ?_) AllReadyH.nil)
        go_simp
        refine hKC.out _ _ hz4.held (fun hHeld => ?_)
        clear hKC KC
        try simp only [Act.put, List.setIfInBounds_toArray, List.set_cons_zero, List.set_cons_succ]
        refine wpAnyH_done (by kernel_rfl) ?_ _
        go_wp2_with fail
        go_ret
        exact ⟨rfl, hz4.q.below⟩


end Go.Proofs.Ytncehlbhjoejhaa.H
end
section
-- Laid by this session's hprint.py, out of the kit's print.py and texts of the session. Not trusted: Lean checks it.
namespace Go.Proofs.Ytncehlbhjoejhaa.H
open Go.RowKit Go.Proofs.YtncehlbhjoejhaaW.PrintWords Go.Proofs.YtncehlbhjoejhaaW.PrintLast Go.Proofs.YtncehlbhjoejhaaW.PrintMore
attribute [local go_sem] max2_int min2_int max_two min_two max_three min_three max_four min_four   -- for this text's walks alone
set_option linter.unusedVariables false
set_option linter.unusedSimpArgs false

-- OVPART Derived.Lib.Hide Derived.Deep.RegionHeld3 Derived.BigRegion Derived.Deep.RegionWith Derived.Deep.Cut
/-! ### marquetryref22_Check: function 17 -/
structure RkC (w W : World) (t0 t1 n : Int) (has : Bool) (least most : ByteArray) : Prop where
  b0 : W.heap[w.heap.size]? = some (.cells #[.int .i64 t0, .int .i64 t1] 24 (0, 0))
  b1 : W.heap[w.heap.size + 1]? = some (.cells #[.int .i64 n, .bool has, .string least, .string most] 31 (0, 0))
  below : Below w.heap.size w W
theorem RkC.next {w W W' : World} {t0 t1 n : Int} {has : Bool} {least most : ByteArray} (h : RkC w W t0 t1 n has least most) (hb : Below W.heap.size W W') : RkC w W' t0 t1 n has least most := ⟨blk_below h.b0 hb, blk_below h.b1 hb, below_step h.below hb⟩
theorem RkC.start (w : World) (t0 t1 n : Int) (has : Bool) (least most : ByteArray) : RkC w ((w.alloc (.cells #[.int .i64 t0, .int .i64 t1] 24)).alloc (.cells #[.int .i64 n, .bool has, .string least, .string most] 31)) t0 t1 n has least most := by
  refine ⟨blk_alloc (blk_new w _) _, ?_, below_alloc (below_alloc (Below.refl _ _) _) _⟩
  have h := blk_new (w.alloc (.cells #[.int .i64 t0, .int .i64 t1] 24)) (.cells #[.int .i64 n, .bool has, .string least, .string most] 31)
  rw [World.size_alloc] at h
  exact h
theorem RkC.cells {w W : World} {t0 t1 n : Int} {has : Bool} {least most : ByteArray} (h : RkC w W t0 t1 n has least most) : W.cell? ⟨w.heap.size, 0, none⟩ = some (.int .i64 t0) ∧ W.cell? ⟨w.heap.size, 1, none⟩ = some (.int .i64 t1) ∧
    W.cell? ⟨w.heap.size + 1, 0, none⟩ = some (.int .i64 n) ∧ W.cell? ⟨w.heap.size + 1, 1, none⟩ = some (.bool has) ∧ W.cell? ⟨w.heap.size + 1, 2, none⟩ = some (.string least) ∧ W.cell? ⟨w.heap.size + 1, 3, none⟩ = some (.string most) :=
  ⟨blk_cell h.b0 0, blk_cell h.b0 1, blk_cell h.b1 0, blk_cell h.b1 1, blk_cell h.b1 2, blk_cell h.b1 3⟩
theorem RkC.far {w W : World} {B : Nat} {t0 t1 n : Int} {has : Bool} {least most : ByteArray} (h : RkC w W t0 t1 n has least most) (hB : w.heap.size + 1 < B) (k : Nat) (v : Value) : RkC w (W.setCell ⟨B, k, none⟩ v) t0 t1 n has least most :=
  ⟨blk_far h.b0 (p := ⟨B, k, none⟩) (by show w.heap.size ≠ B; omega) v, blk_far h.b1 (p := ⟨B, k, none⟩) (by show w.heap.size + 1 ≠ B; omega) v, h.below.setCell (p := ⟨B, k, none⟩) (by show w.heap.size ≤ B; omega) v⟩
structure RkA (w W : World) (B : Nat) (t0 t1 n : Int) (has : Bool) (least most : ByteArray) (k i : Int) (t : ByteArray) : Prop where
  rc : RkC w W t0 t1 n has least most
  lt : w.heap.size + 1 < B
  ka : W.heap[B]? = some (.cells #[.int .i64 k, .int .i64 i, .string t] 29 (0, 0))
theorem RkA.next {w W W' : World} {t0 t1 n : Int} {has : Bool} {least most : ByteArray} {B : Nat} {k i : Int} {t : ByteArray} (h : RkA w W B t0 t1 n has least most k i t) (hb : Below W.heap.size W W') : RkA w W' B t0 t1 n has least most k i t := ⟨h.rc.next hb, h.lt, blk_below h.ka hb⟩
theorem RkA.start {w W : World} {t0 t1 n : Int} {has : Bool} {least most : ByteArray} (h : RkC w W t0 t1 n has least most) (k i : Int) (t : ByteArray) : RkA w (W.alloc (.cells #[.int .i64 k, .int .i64 i, .string t] 29)) W.heap.size t0 t1 n has least most k i t :=
  ⟨h.next (below_alloc (Below.refl _ _) _), blk_lt h.b1, blk_new W _⟩
theorem RkA.far {w W : World} {B B' : Nat} {t0 t1 n : Int} {has : Bool} {least most : ByteArray} {k i : Int} {t : ByteArray} (h : RkA w W B t0 t1 n has least most k i t) (hB : B < B') (j : Nat) (v : Value) : RkA w (W.setCell ⟨B', j, none⟩ v) B t0 t1 n has least most k i t :=
  ⟨h.rc.far (Nat.lt_trans h.lt hB) j v, h.lt, blk_far h.ka (p := ⟨B', j, none⟩) (by show B ≠ B'; omega) v⟩
structure RkB (w W : World) (B5 B7 : Nat) (t0 t1 n : Int) (has : Bool) (least most : ByteArray) (ak ai : Int) (at_ : ByteArray) (bk bi : Int) (bt_ : ByteArray) : Prop where
  ra : RkA w W B5 t0 t1 n has least most ak ai at_
  kb : W.heap[B7]? = some (.cells #[.int .i64 bk, .int .i64 bi, .string bt_] 29 (0, 0))
theorem RkB.next {w W W' : World} {t0 t1 n : Int} {has : Bool} {least most : ByteArray} {B5 B7 : Nat} {ak ai bk bi : Int} {at_ bt_ : ByteArray} (h : RkB w W B5 B7 t0 t1 n has least most ak ai at_ bk bi bt_) (hb : Below W.heap.size W W') : RkB w W' B5 B7 t0 t1 n has least most ak ai at_ bk bi bt_ := ⟨h.ra.next hb, blk_below h.kb hb⟩
theorem RkB.drew {w W : World} {t0 t1 n : Int} {has : Bool} {least most : ByteArray} {B5 B7 : Nat} {ak ai bk bi : Int} {at_ bt_ : ByteArray} (h : RkB w W B5 B7 t0 t1 n has least most ak ai at_ bk bi bt_) : RkB w W.drew B5 B7 t0 t1 n has least most ak ai at_ bk bi bt_ := ⟨⟨⟨h.ra.rc.b0, h.ra.rc.b1, h.ra.rc.below.drew⟩, h.ra.lt, h.ra.ka⟩, h.kb⟩
theorem RkB.start {w W : World} {t0 t1 n : Int} {has : Bool} {least most : ByteArray} {B5 : Nat} {ak ai : Int} {at_ : ByteArray} (h : RkA w W B5 t0 t1 n has least most ak ai at_) (k i : Int) (t : ByteArray) : RkB w (W.alloc (.cells #[.int .i64 k, .int .i64 i, .string t] 29)) B5 W.heap.size t0 t1 n has least most ak ai at_ k i t :=
  ⟨h.next (below_alloc (Below.refl _ _) _), blk_new W _⟩
theorem RkB.held {w W : World} {t0 t1 n : Int} {has : Bool} {least most : ByteArray} {B5 B7 : Nat} {ak ai bk bi : Int} {at_ bt_ : ByteArray} (h : RkB w W B5 B7 t0 t1 n has least most ak ai at_ bk bi bt_) :
    (W.cell? ⟨B5, 0, none⟩ = some (.int .i64 ak) ∧ W.cell? ⟨B5, 1, none⟩ = some (.int .i64 ai) ∧ W.cell? ⟨B5, 2, none⟩ = some (.string at_)) ∧ (W.cell? ⟨B7, 0, none⟩ = some (.int .i64 bk) ∧ W.cell? ⟨B7, 1, none⟩ = some (.int .i64 bi) ∧ W.cell? ⟨B7, 2, none⟩ = some (.string bt_)) :=
  ⟨⟨blk_cell h.ra.ka 0, blk_cell h.ra.ka 1, blk_cell h.ra.ka 2⟩, ⟨blk_cell h.kb 0, blk_cell h.kb 1, blk_cell h.kb 2⟩⟩
attribute [local go_sem high] eqA29
end Go.Proofs.Ytncehlbhjoejhaa.H
end
