/- Texts of the claim, packed: H48, H43, H33, H49. -/
import Derived.Deep.RegionHeld3
import Derived.Lib.Hide
import Derived.RangeFuncBox
import Derived.Test.YtjdjlccdidfgoaaDoorZSchemaFlat6
import Derived.Test.YtjdjlccdidfgoaaDoorZSchemaFlat9
import Derived.Test.YtjdjlccdidfgoaaDoorZSchemaFlat11
import Derived.Test.YtjdjlccdidfgoaaDoorZSchemaFlat12
section
-- Laid by this session's hprint.py, out of the kit's print.py and texts of the session. Not trusted: Lean checks it.
namespace Go.Proofs.YtjdjlccdidfgoaaDoor.H
open Go.RowKit Go.Proofs.YtjdjlccdidfgoaaDoorW.PrintWords Go.Proofs.YtjdjlccdidfgoaaDoorW.PrintLast Go.Proofs.YtjdjlccdidfgoaaDoorW.PrintMore
attribute [local go_sem] max2_int min2_int max_two min_two max_three min_three max_four min_four   -- for this text's walks alone
set_option linter.unusedVariables false
set_option linter.unusedSimpArgs false

-- OVPART Derived.Lib.Hide Derived.RangeFuncBox
/-! ### schema_Flat_1: function 39 -/
/-- The flat list of nodes. -/
def flatL : List S62 → List S43
  | [] => []
  | ⟨a, b, _, d, e, k⟩ :: xs => ⟨a, b, (k.length : Int), d, e⟩ :: (flatL k ++ flatL xs)
theorem flatL_nil : flatL [] = [] := by rw [flatL]
theorem flatL_cons (x : S62) (xs : List S62) : flatL (x :: xs) = ⟨x.f0, x.f1, (x.f5.length : Int), x.f3, x.f4⟩ :: (flatL x.f5 ++ flatL xs) := by
  cases x
  rw [flatL]
theorem flatL_app (a b : List S62) : flatL (a ++ b) = flatL a ++ flatL b := by
  induction a with
  | nil => rw [List.nil_append, flatL_nil, List.nil_append]
  | cons x a ih => rw [List.cons_append, flatL_cons, flatL_cons, ih]; simp
theorem flatL_next (l : List S62) (k : Nat) (h : k < l.length) : flatL (l.take (k + 1)) = flatL (l.take k) ++ (⟨l[k].f0, l[k].f1, (l[k].f5.length : Int), l[k].f3, l[k].f4⟩ :: flatL l[k].f5) := by
  rw [List.take_succ_eq_append_getElem h, flatL_app, flatL_cons, flatL_nil, List.append_nil]
theorem flatL_len (n : Nat) : ∀ (l : List S62), numNs l ≤ n → (flatL l).length = numNs l := by
  induction n with
  | zero =>
    intro l hl
    cases l with
    | nil => rw [flatL_nil, numNs]; rfl
    | cons x xs => rw [numNs_cons] at hl; omega
  | succ n ih =>
    intro l
    induction l with
    | nil => intro _; rw [flatL_nil, numNs]; rfl
    | cons x xs ihx =>
      intro hl
      rw [numNs_cons] at hl ⊢
      rw [flatL_cons, List.length_cons, List.length_append, ihx (by omega), ih x.f5 (by omega)]
      omega
theorem numNs_take (l : List S62) (k : Nat) (h : k < l.length) : numNs (l.take k) + 1 + numNs l[k].f5 ≤ numNs l := by
  have e : l = l.take k ++ (l[k] :: l.drop (k + 1)) := by rw [← List.drop_eq_getElem_cons h, List.take_append_drop]
  have h1 := congrArg numNs e
  rw [numNs_app, numNs_cons] at h1
  omega
abbrev flV (NB b3 : Nat) : Value := .func (.func 39) #[] #[.pointer (some ⟨NB, 0, none⟩), .pointer (some ⟨b3, 0, none⟩)]
/-- The list so far, in its box; the walk in its own. -/
structure FlB (w0 W : World) (base NB b3 : Nat) (v : Value) (out : List S43) : Prop where
  below : Below w0.heap.size w0 W
  box : W.heap[NB]? = some (.cells #[v] 31 (0, 0))
  fb : W.heap[b3]? = some (.cells #[flV NB b3] 81 (0, 0))
  row : Kd.R k43 43 W base (fun _ => True) v out
  hb : base ≤ W.heap.size
  nb : w0.heap.size ≤ NB
  ba : w0.heap.size ≤ base
theorem FlB.next {w0 W W' : World} {base NB b3 : Nat} {v : Value} {out : List S43} (h : FlB w0 W base NB b3 v out) (hb : Below W.heap.size W W') : FlB w0 W' base NB b3 v out :=
  ⟨h.below.trans (hb.mono h.below.size), blk_below h.box hb, blk_below h.fb hb, Kd.R_below h.row hb, Nat.le_trans h.hb hb.size, h.nb, h.ba⟩
theorem FlB.app {w0 W w1 : World} {base NB b3 : Nat} {v v1 : Value} {out out' : List S43} (h : FlB w0 W base NB b3 v out) (hg : W.grownBy w1 v.ownBlock) (hr : Kd.R k43 43 w1 base (fun _ => True) v1 out') :
    w1.heap[NB]? = some (.cells #[v] 31 (0, 0)) ∧ FlB w0 (w1.setCell ⟨NB, 0, none⟩ v1) base NB b3 v1 out' := by
  have n1 := Kd.R_ne h.row h.box (by decide)
  have n2 := Kd.R_ne h.row h.fb (by decide)
  have k1 := (hg.block _ (blk_lt h.box) n1).trans h.box
  have k2 := (hg.block _ (blk_lt h.fb) n2).trans h.fb
  have hne : b3 ≠ NB := fun e => by
    have h1 := h.fb
    rw [e, h.box] at h1
    injection h1 with h1
    injection h1 with _ h1
    exact absurd h1 (by decide)
  refine ⟨k1, (h.below.grown hg h.below.size (fun k e => Nat.le_trans h.ba (Kd.R_base h.row k e))).setCell (p := ⟨NB, 0, none⟩) h.nb _, blk_put k1 0 _ rfl, blk_far k2 (p := ⟨NB, 0, none⟩) hne _, Kd.R_set hr k1 (by decide) 0 v1, ?_, h.nb, h.ba⟩
  have := hg.size
  have := h.hb
  simp [World.setCell]
  omega
/-- What the walk does at lists that are no greater. -/
def FlatAt (n : Nat) : Prop := ∀ (l0 : List S62), numNs l0 < n → ∀ (w0 : World) (base NB b3 : Nat) (A : Option Addr) (c : Nat) (v : Value) (out : List S43) (W : World), Kd.C k62 w0 A l0.length l0 → FlB w0 W base NB b3 v out → out.length + numNs l0 ≤ 1000000 →
  Calls Tryd.prog 39 #[.slice A l0.length c, .pointer (some ⟨NB, 0, none⟩), .pointer (some ⟨b3, 0, none⟩)] W fun e W' => e = .returned (.tuple #[]) ∧ ∃ v', FlB w0 W' base NB b3 v' (out ++ flatL l0)
set_option maxHeartbeats 8000000 in
set_option maxRecDepth 100000 in
theorem flat_step {n : Nat} (ih : FlatAt n) : FlatAt (n + 1) := by
  intro l0 hn w0 base NB b3 A c v out W hr hF hlen
  have hmax := Kd.C_max hr
  go_enter Tryd.func39, Tryd.ntmps39
  go_wp2_with fail
  go_loopw [8] (fun vi wr => ∃ (k : Nat) (v : Value), k ≤ l0.length ∧ vi = .int .i64 k ∧ FlB w0 wr base NB b3 v (out ++ flatL (l0.take k))) (fun vi _ => l0.length - (intOf vi).toNat)
  case atStart => exact ⟨0, v, Nat.zero_le _, rfl, by simpa [flatL_nil] using hF⟩
  case round =>
    clear hF
    obtain ⟨k, v, hk, rfl, hF⟩ := hrel
    by_cases hlt : k < l0.length
    · have HNX := Lib.hid (flatL_next l0 k hlt)
      have HNT := Lib.hid (numNs_take l0 k hlt)
      have HTL := Lib.hid (flatL_len _ (l0.take k) (Nat.le_refl _))
      have hwk : IntKind.i64.wrap ((k : Int) + 1) = ((k + 1 : Nat) : Int) := by rw [IntKind.wrap_i64]; omega
      obtain ⟨ad, P, q, e0, hx0, hx1, hx2, hx3, hx4, hx5, ml, mc⟩ := at_T62 hr (k : Int) (by omega) (by omega)
      cases e0
      have ex : rd_T62 l0 (k : Int) = l0[k] := by unfold rd_T62; simp [List.getD, hlt]
      simp only [Int.toNat_natCast, ex] at hx0 hx1 hx2 hx3 hx4 hx5 ml mc
      have hBr := hF.below
      replace hx0 := (hBr.cell (World.block_lt_of_cell? w0 _ hx0)).trans hx0
      replace hx1 := (hBr.cell (World.block_lt_of_cell? w0 _ hx1)).trans hx1
      replace hx2 := (hBr.cell (World.block_lt_of_cell? w0 _ hx2)).trans hx2
      replace hx3 := (hBr.cell (World.block_lt_of_cell? w0 _ hx3)).trans hx3
      replace hx4 := (hBr.cell (World.block_lt_of_cell? w0 _ hx4)).trans hx4
      replace hx5 := (hBr.cell (World.block_lt_of_cell? w0 _ hx5)).trans hx5
      clear ex
      generalize l0[k] = x at *
      have hlt_ := blk_lt hF.box
      have hBn : Below wr.heap.size wr (wr.alloc (.cells (ndV x P q) 62)) := below_alloc (Below.refl _ _) _
      have hFn := hF.next hBn
      have hnd := blk_new wr (.cells (ndV x P q) 62)
      have hcv := blk_cell hFn.box 0
      have HOL := Lib.hid (show (out ++ flatL (l0.take k)).length + 1 + numNs x.f5 ≤ 1000000 by rw [List.length_append, HTL.out]; have := HNT.out; omega)
      have HFN := Lib.hid hFn
      have HND := Lib.hid hnd
      have HMC := Lib.hid mc
      have HN5 := Lib.hid (show numNs x.f5 < n by have := HNT.out; omega)
      clear hF hFn hBn hnd hBr mc ml hlen hr
      have HLT := Lib.hid hlt_
      generalize hO1 : out ++ flatL (l0.take k) = o1 at *
      have HO1 := Lib.hid hO1
      clear hO1
      go_wp2_with (first | ((with_reducible refine gate_builtin (b := .append) (xs := #[.tmp 12, .tmp 25]) rfl ?_); at_builtin; refine Kd.R_append k43 (w0 := wr.alloc (.cells (ndV x P q) 62)) base rfl (.tmp 12) (.tmp 25) 31 43 (.agg #[(.string ⟨#[]⟩), (.int .i64 0), (.int .i64 0), (.int .i64 0), (.int .i64 0)]) 48 rfl Tryd.underlying31 info43 rfl (by decide) (by decide) v o1 (⟨x.f0, x.f1, (x.f5.length : Int), x.f3, x.f4⟩ : S43) [.string x.f0, .int .i64 x.f1, .int .i64 x.f5.length, .int .i64 x.f3, .int .i64 x.f4] (fun _ => True) (fun k_ => True ∧ some k_ ≠ v.ownBlock) rfl ?aX ?aP (fun _ hk => hk) (fun _ _ => trivial) HFN.out.row (Below.refl _ _) HFN.out.hb (by have := HOL.out; omega) ?_; (case aX => (rw [World.size_alloc]; rfl)); (case aP => exact @k43_mkM _ _ _ (⟨x.f0, x.f1, (x.f5.length : Int), x.f3, x.f4⟩ : S43)); intro v1 w1 ho1 hb1 hg1 hat1; obtain ⟨A9, c9, rfl⟩ := Kd.R_slice ho1; generalize (o1 ++ [(⟨x.f0, x.f1, (x.f5.length : Int), x.f3, x.f4⟩ : S43)]).length = nl at *; have hap := HFN.out.app hg1 ho1; have hcn := blk_cell hap.1 0; have hzn := blk_frozen hap.1 0; have hnd2 := blk_far ((hg1.block _ (blk_lt HND.out) (Kd.R_ne HFN.out.row HND.out (by decide))).trans HND.out) (p := ⟨NB, 0, none⟩) (Nat.ne_of_gt HLT.out) (.slice A9 nl c9); have hc5 := blk_cell hnd2 5; have hcb := blk_cell hap.2.fb 0; have HAP := Lib.hid hap.2; clear hap ho1 hb1 hg1 hat1 hnd2))
      refine (ih x.f5 HN5.out w0 base NB b3 P q _ _ _ HMC.out HAP.out (by have := HOL.out; simp only [List.length_append, List.length_singleton]; omega)).mono ?_
      rintro e w3 ⟨rfl, v3, hF3⟩
      have HF3 := Lib.hid (show FlB w0 w3 base NB b3 v3 (out ++ flatL (l0.take (k + 1))) by rw [HNX.out, ← List.append_assoc, HO1.out]; simpa using hF3)
      clear hF3
      go_wp2_with fail
      go_roundw
      case rel => exact ⟨k + 1, v3, by omega, by go_num, HF3.out⟩
      case measure => simp [intOf]; omega
    · have hke : k = l0.length := by omega
      have HF3 := Lib.hid (show FlB w0 wr base NB b3 v (out ++ flatL l0) by rw [hke, List.take_length] at hF; exact hF)
      clear hF hke
      go_wp2_with fail
      go_end0
      exact ⟨rfl, v, HF3.out⟩
theorem flat_all : ∀ n, FlatAt n
  | 0 => fun l0 hn => absurd hn (Nat.not_lt_zero _)
  | n + 1 => flat_step (flat_all n)


end Go.Proofs.YtjdjlccdidfgoaaDoor.H
end
section
-- Laid by this session's hprint.py, out of the kit's print.py and texts of the session. Not trusted: Lean checks it.
namespace Go.Proofs.YtjdjlccdidfgoaaDoor.H
open Go.RowKit Go.Proofs.YtjdjlccdidfgoaaDoorW.PrintWords Go.Proofs.YtjdjlccdidfgoaaDoorW.PrintLast Go.Proofs.YtjdjlccdidfgoaaDoorW.PrintMore
attribute [local go_sem] max2_int min2_int max_two min_two max_three min_three max_four min_four   -- for this text's walks alone
set_option linter.unusedVariables false
set_option linter.unusedSimpArgs false

-- OVPART Derived.Lib.Hide Derived.Deep.RegionHeld3 Derived.RangeFuncBox
/-! ### schema_reader_nodes: function 37 -/
/-- So many nodes off the front of a list, and what is left; none: given up. -/
def loopP (f : Int → List S43 → Option (List S62 × List S43)) : Nat → List S43 → List S62 → Option (List S62 × List S43)
  | 0, l, out => some (out, l)
  | _ + 1, [], _ => none
  | k + 1, x :: l, out => if x.f2 = 0 ∨ (x.f3 = 0 ∧ x.f4 = 0) then (f x.f2 l).bind fun p => loopP f k p.2 (out ++ [⟨x.f0, x.f1, decide (x.f2 ≠ 0), x.f3, x.f4, p.1⟩]) else none
def nodesP : Nat → Int → List S43 → Option (List S62 × List S43)
  | 0, _, _ => none
  | left + 1, n, l => if 0 ≤ n ∧ n ≤ 256 then loopP (nodesP left) n.toNat l [] else none
abbrev stopP : PanicEntry := { v := .iface 72 (.agg #[]), recovered := false }
theorem must_ok (w : World) : Calls Tryd.prog 35 #[.bool true] w fun e w' => e = .returned (.tuple #[]) ∧ w' = w := by
  go_enter Tryd.func35, Tryd.ntmps35
  go_wp2
  go_end0
  exact ⟨rfl, rfl⟩
theorem must_no (w : World) : Calls Tryd.prog 35 #[.bool false] w fun e w' => e = .panicked [stopP] ∧ w' = w := by
  have hpn : ∀ (t : TypeId) (v : Value) (w : World), (Instr.panic (.iface t v)).run Tryd.prog w = .halt (.panic (.iface t v)) w := fun _ _ _ => rfl
  go_enter Tryd.func35, Tryd.ntmps35
  go_wp2
  exact ⟨rfl, rfl, rfl⟩
theorem next_none (rb : Nat) (A : Option Addr) (c : Nat) (w : World) (hb : w.heap[rb]? = some (.cells #[.slice A 0 c] 76 (0, 0))) :
    Calls Tryd.prog 36 #[.pointer (some ⟨rb, 0, none⟩)] w fun e w' => e = .panicked [stopP] ∧ Below w.heap.size w w' := by
  have hB := below_alloc (Below.refl w.heap.size w) (.cells #[.string ⟨#[]⟩, .int .i64 0, .int .i64 0, .int .i64 0, .int .i64 0] 43)
  have hc := blk_cell (blk_alloc hb (.cells #[.string ⟨#[]⟩, .int .i64 0, .int .i64 0, .int .i64 0, .int .i64 0] 43)) 0
  go_enter Tryd.func36, Tryd.ntmps36
  go_wp2_with fail
  refine (must_no _).mono ?_
  rintro e w' ⟨rfl, rfl⟩
  exact ⟨rfl, rfl, hB⟩
theorem grownBy_setAt_ (w : World) (b j : Nat) (u : Value) : w.grownBy (w.setCell ⟨b, j, none⟩ u) (some b) := ⟨rfl, rfl, rfl, by simp [World.setCell], fun i _ hne => Below.heap_setCell w ⟨b, j, none⟩ u i (fun e => hne (by rw [e]))⟩
/-- The reader's slice behind its first element. -/
def cutA (A : Option Addr) (c : Nat) : Option Addr := if c = 1 then A else A.map (·.add 5)
theorem cutA_reads {w : World} {A : Option Addr} {c : Nat} {x : S43} {l : List S43} (h : Kd.C k43 w A (x :: l).length (x :: l)) (hc : (x :: l).length ≤ c) : Kd.C k43 w (cutA A c) l.length l := by
  have := Kd.C_drop (m := 1) h (by simp) hc
  exact this
set_option maxRecDepth 100000 in
set_option maxHeartbeats 4000000 in
theorem next_some (rb : Nat) (A : Option Addr) (c : Nat) (x : S43) (l : List S43) (w : World) (hb : w.heap[rb]? = some (.cells #[.slice A (x :: l).length c] 76 (0, 0))) (hr : Kd.C k43 w A (x :: l).length (x :: l)) (hcc : (x :: l).length ≤ c) :
    Calls Tryd.prog 36 #[.pointer (some ⟨rb, 0, none⟩)] w fun e w' => e = .returned (.agg #[.string x.f0, .int .i64 x.f1, .int .i64 x.f2, .int .i64 x.f3, .int .i64 x.f4]) ∧ w.grownBy w' (some rb) ∧ w'.heap[rb]? = some (.cells #[.slice (cutA A c) l.length (c - 1)] 76 (0, 0)) := by
  obtain ⟨i0, hi, hz0, hz1, hz2⟩ := info_parts info43
  have hrb := blk_lt hb
  -- the two new blocks
  have hB1 := below_alloc (Below.refl w.heap.size w) (.cells #[.string ⟨#[]⟩, .int .i64 0, .int .i64 0, .int .i64 0, .int .i64 0] 43)
  have hB2 := below_alloc hB1 (.cells #[.string x.f0, .int .i64 x.f1, .int .i64 x.f2, .int .i64 x.f3, .int .i64 x.f4] 43)
  have hk2 := blk_alloc (blk_new w (.cells #[.string ⟨#[]⟩, .int .i64 0, .int .i64 0, .int .i64 0, .int .i64 0] 43)) (.cells #[.string x.f0, .int .i64 x.f1, .int .i64 x.f2, .int .i64 x.f3, .int .i64 x.f4] 43)
  have hk3 := blk_new (w.alloc (.cells #[.string ⟨#[]⟩, .int .i64 0, .int .i64 0, .int .i64 0, .int .i64 0] 43)) (.cells #[.string x.f0, .int .i64 x.f1, .int .i64 x.f2, .int .i64 x.f3, .int .i64 x.f4] 43)
  have hb1 := blk_below hb hB1
  have hb2 := blk_below hb hB2
  rw [World.size_alloc] at hk3
  have hc1 := blk_cell hb1 0
  have hc2 := blk_cell hb2 0
  have hf2 := blk_frozen hb2 0
  obtain ⟨ad, e0, hx0, hx1, hx2, hx3, hx4⟩ := at_T43 (Kd.C_below hr hB1) 0 (by omega) (by simp only [List.length_cons]; omega)
  cases e0
  have ex : rd_T43 (x :: l) 0 = x := rfl
  have ead : ad.add 0 = ad := by simp [Addr.add]
  simp only [Int.toNat_zero, Nat.zero_mul, ex, ead] at hx0 hx1 hx2 hx3 hx4
  have hsl := cut_from (P := Tryd.prog) 31 43 .i64 Tryd.underlying31 hi 5 hz1 (some ad) (x :: l).length c 1 (by omega) (by simp only [List.length_cons]; omega)
  have esl : Value.slice (if c = (1 : Int).toNat then some ad else (some ad).map (·.add ((1 : Int).toNat * 5))) ((x :: l).length - (1 : Int).toNat) (c - (1 : Int).toNat) = .slice (cutA (some ad) c) l.length (c - 1) := by simp [cutA]
  rw [esl] at hsl
  clear esl
  have hpos : 0 < (x :: l).length := by simp only [List.length_cons]; omega
  -- the store into the reader
  have hB3 : w.grownBy ((((w.alloc (.cells #[.string ⟨#[]⟩, .int .i64 0, .int .i64 0, .int .i64 0, .int .i64 0] 43)).alloc (.cells #[.string x.f0, .int .i64 x.f1, .int .i64 x.f2, .int .i64 x.f3, .int .i64 x.f4] 43))).setCell ⟨rb, 0, none⟩ (.slice (cutA (some ad) c) l.length (c - 1))) (some rb) := gb_trans (gb_of _ hB2) (grownBy_setCell' _ rb _)
  have hr3 := blk_put hb2 0 (.slice (cutA (some ad) c) l.length (c - 1)) rfl
  have h23 := blk_far hk2 (p := ⟨rb, 0, none⟩) (Nat.ne_of_gt hrb) (.slice (cutA (some ad) c) l.length (c - 1))
  have h33 := blk_far hk3 (p := ⟨rb, 0, none⟩) (show w.heap.size + 1 ≠ rb by omega) (.slice (cutA (some ad) c) l.length (c - 1))
  generalize (x :: l).length = n at *
  generalize hw3 : (((w.alloc (.cells #[.string ⟨#[]⟩, .int .i64 0, .int .i64 0, .int .i64 0, .int .i64 0] 43)).alloc (.cells #[.string x.f0, .int .i64 x.f1, .int .i64 x.f2, .int .i64 x.f3, .int .i64 x.f4] 43))).setCell ⟨rb, 0, none⟩ (.slice (cutA (some ad) c) l.length (c - 1)) = w3 at *
  have ha0 := blk_cell h33 0
  have ha1 := blk_cell h33 1
  have ha2 := blk_cell h33 2
  have ha3 := blk_cell h33 3
  have ha4 := blk_cell h33 4
  have hz0 := blk_cell h23 0
  have hz1 := blk_cell h23 1
  have hz2 := blk_cell h23 2
  have hz3 := blk_cell h23 3
  have hz4 := blk_cell h23 4
  have hy0 := blk_frozen h23 0
  have hy1 := blk_frozen h23 1
  have hy2 := blk_frozen h23 2
  have hy3 := blk_frozen h23 3
  have hy4 := blk_frozen h23 4
  have HB3 := Lib.hid hB3
  have HR3 := Lib.hid hr3
  have HK3 := Lib.hid h23
  clear hB3 hr3 h23 h33 hk2 hk3 hb1 hb2 hB1 hB2 hr
  go_enter Tryd.func36, Tryd.ntmps36
  go_wp2_with fail
  refine (must_ok _).mono ?_
  rintro e w' ⟨rfl, rfl⟩
  go_wp2_with fail
  have hk5 := blk_put (blk_put (blk_put (blk_put (blk_put HK3.out 0 (.string x.f0) rfl) 1 (.int .i64 x.f1) rfl) 2 (.int .i64 x.f2) rfl) 3 (.int .i64 x.f3) rfl) 4 (.int .i64 x.f4) rfl
  have hr5 := blk_far (blk_far (blk_far (blk_far (blk_far HR3.out (p := ⟨w.heap.size, 0, none⟩) (Nat.ne_of_lt hrb) (.string x.f0)) (p := ⟨w.heap.size, 1, none⟩) (Nat.ne_of_lt hrb) (.int .i64 x.f1)) (p := ⟨w.heap.size, 2, none⟩) (Nat.ne_of_lt hrb) (.int .i64 x.f2)) (p := ⟨w.heap.size, 3, none⟩) (Nat.ne_of_lt hrb) (.int .i64 x.f3)) (p := ⟨w.heap.size, 4, none⟩) (Nat.ne_of_lt hrb) (.int .i64 x.f4)
  have hg5 := gb_new (gb_new (gb_new (gb_new (gb_new HB3.out (grownBy_setCell' w3 w.heap.size (.string x.f0)) (Nat.le_refl _)) (grownBy_setAt_ (w3.setCell ⟨w.heap.size, 0, none⟩ (.string x.f0)) w.heap.size 1 (.int .i64 x.f1)) (Nat.le_refl _)) (grownBy_setAt_ _ w.heap.size 2 (.int .i64 x.f2)) (Nat.le_refl _)) (grownBy_setAt_ _ w.heap.size 3 (.int .i64 x.f3)) (Nat.le_refl _)) (grownBy_setAt_ _ w.heap.size 4 (.int .i64 x.f4)) (Nat.le_refl _)
  have q0 := blk_cell hk5 0
  have q1 := blk_cell hk5 1
  have q2 := blk_cell hk5 2
  have q3 := blk_cell hk5 3
  have q4 := blk_cell hk5 4
  generalize (((((w3.setCell ⟨w.heap.size, 0, none⟩ (.string x.f0)).setCell ⟨w.heap.size, 1, none⟩ (.int .i64 x.f1)).setCell ⟨w.heap.size, 2, none⟩ (.int .i64 x.f2)).setCell ⟨w.heap.size, 3, none⟩ (.int .i64 x.f3)).setCell ⟨w.heap.size, 4, none⟩ (.int .i64 x.f4)) = w5 at *
  refine ⟨rfl, .agg #[.string x.f0, .int .i64 x.f1, .int .i64 x.f2, .int .i64 x.f3, .int .i64 x.f4], ?_, rfl, hg5, hr5⟩
  simp only [results, Tryd.results36]
  go_simp
theorem gb_own_ {A B C : World} {r row : Option Nat} (h : A.grownBy B r) (k : B.grownBy C row) (hr : ∀ j, row = some j → A.heap.size ≤ j) : A.grownBy C r := ⟨k.os.trans h.os, k.tape.trans h.tape, k.output.trans h.output, Nat.le_trans h.size k.size, fun i hi hn => (k.block i (Nat.lt_of_lt_of_le hi h.size) (fun e => by have := hr i e.symm; omega)).trans (h.block i hi hn)⟩
/-- How 'nodes' ends. -/
def NodesR (p : Option (List S62 × List S43)) (w0 w : World) (rb : Nat) (e : Ending) (w' : World) : Prop := (p = none → e = .panicked [stopP] ∧ w.grownBy w' (some rb)) ∧
  (∀ ns rest, p = some (ns, rest) → ∃ v A' c', e = .returned v ∧ Kd.R k62 62 w' w.heap.size (fun _ => True) v ns ∧ w.grownBy w' (some rb) ∧ w'.heap[rb]? = some (.cells #[.slice A' rest.length c'] 76 (0, 0)) ∧ rest.length ≤ c' ∧ Kd.C k43 w0 A' rest.length rest)
theorem NodesR.fails {p : Option (List S62 × List S43)} {w0 w w' : World} {rb : Nat} (h : p = none) (hg : w.grownBy w' (some rb)) : NodesR p w0 w rb (.panicked [stopP]) w' := ⟨fun _ => ⟨rfl, hg⟩, fun ns rest h' => by rw [h] at h'; cases h'⟩
/-- What the reader's 'nodes' does. -/
def NodesAt (left : Nat) : Prop := ∀ (n : Int) (l : List S43) (w0 w : World) (rb : Nat) (A : Option Addr) (c : Nat), left ≤ 33 → Below w0.heap.size w0 w → w0.heap.size ≤ rb → w.heap[rb]? = some (.cells #[.slice A l.length c] 76 (0, 0)) → l.length ≤ c → Kd.C k43 w0 A l.length l →
  Calls Tryd.prog 37 #[.pointer (some ⟨rb, 0, none⟩), .int .i64 n, .int .i64 (34 - (left : Int))] w fun e w' => NodesR (nodesP left n l) w0 w rb e w'
set_option maxRecDepth 100000 in
set_option maxHeartbeats 8000000 in
theorem nodes_step (left : Nat) (ih : ∀ m, m < left → NodesAt m) : NodesAt left := by
  intro n l w0 w rb A c hl hB hrb hb hc hC
  by_cases hn : 0 ≤ n ∧ n ≤ 256 ∧ 1 ≤ left
  case neg =>
    have HNO := Lib.hid (show nodesP left n l = none by
      cases left with
      | zero => rfl
      | succ left =>
        unfold nodesP
        rw [if_neg (fun h => hn ⟨h.1, h.2, by omega⟩)])
    by_cases h0 : 0 ≤ n
    · by_cases h1 : n ≤ 256
      · have h2 : ¬ (34 - (left : Int) ≤ 33) := by omega
        have d0 : decide (0 ≤ n) = true := decide_eq_true h0
        have d1 : decide (n ≤ 256) = true := decide_eq_true h1
        have d2 : decide (34 - (left : Int) ≤ 33) = false := decide_eq_false h2
        generalize 34 - (left : Int) = deep at *
        go_enter Tryd.func37, Tryd.ntmps37
        go_wp2_with fail
        refine (must_no _).mono ?_
        rintro e w' ⟨rfl, rfl⟩
        exact ⟨rfl, .fails HNO.out (gb_refl _ _)⟩
      · have d0 : decide (0 ≤ n) = true := decide_eq_true h0
        have d1 : decide (n ≤ 256) = false := decide_eq_false h1
        generalize 34 - (left : Int) = deep at *
        go_enter Tryd.func37, Tryd.ntmps37
        go_wp2_with fail
        refine (must_no _).mono ?_
        rintro e w' ⟨rfl, rfl⟩
        exact ⟨rfl, .fails HNO.out (gb_refl _ _)⟩
    · have d0 : decide (0 ≤ n) = false := decide_eq_false h0
      generalize 34 - (left : Int) = deep at *
      go_enter Tryd.func37, Tryd.ntmps37
      go_wp2_with fail
      refine (must_no _).mono ?_
      rintro e w' ⟨rfl, rfl⟩
      exact ⟨rfl, .fails HNO.out (gb_refl _ _)⟩
  case pos =>
    obtain ⟨h0, h1, h2⟩ := hn
    obtain ⟨lf, rfl⟩ : ∃ lf, left = lf + 1 := ⟨left - 1, by omega⟩
    obtain ⟨m, rfl⟩ := Int.eq_ofNat_of_zero_le h0
    have ihl := ih lf (Nat.lt_succ_self _)
    have hP : nodesP (lf + 1) (m : Int) l = loopP (nodesP lf) m l [] := by
      rw [nodesP, if_pos ⟨h0, h1⟩]
      rfl
    rw [hP]
    have IHL := Lib.hid ihl
    clear ih hP ihl
    have hm : m ≤ 256 := by omega
    have d0 : decide (0 ≤ (m : Int)) = true := decide_eq_true h0
    have d1 : decide ((m : Int) ≤ 256) = true := decide_eq_true h1
    have hdp : IntKind.i64.wrap (34 - ((lf + 1 : Nat) : Int) + 1) = 34 - (lf : Int) := by rw [IntKind.wrap_i64]; omega
    have d2 : decide (34 - ((lf + 1 : Nat) : Int) ≤ 33) = true := decide_eq_true (by omega)
    generalize 34 - ((lf + 1 : Nat) : Int) = deep at *
    go_enter Tryd.func37, Tryd.ntmps37
    go_wp2_with fail
    refine (must_ok _).mono ?_
    rintro e w' ⟨rfl, rfl⟩
    go_wp2_with fail
    go_loopw [7, 21] (fun v7 vi wr => ∃ (i : Nat) (out : List S62) (lc : List S43) (A' : Option Addr) (c' : Nat), i ≤ m ∧ vi = .int .i64 i ∧ Hid (loopP (nodesP lf) (m - i) lc out = loopP (nodesP lf) m l []) ∧ Hid (Kd.R k62 62 wr w'.heap.size (fun _ => True) v7 out) ∧ w'.grownBy wr (some rb) ∧ wr.heap[rb]? = some (.cells #[.slice A' lc.length c'] 76 (0, 0)) ∧ lc.length ≤ c' ∧ Hid (Kd.C k43 w0 A' lc.length lc) ∧ out.length ≤ i) (fun _ vi _ => m - (intOf vi).toNat)
    case atStart => exact ⟨0, [], l, A, c, Nat.zero_le _, rfl, Lib.hid rfl, Lib.hid (Kd.R_nil _ _ _ _ _), gb_refl _ _, hb, hc, Lib.hid hC, Nat.le_refl _⟩
    case round =>
      have hrw := blk_lt hb
      clear hb hc hC
      obtain ⟨i, out, lc, A', c', hi, rfl, HP, HO, hG, hb, hc, HC, hol⟩ := hrel
      by_cases hlt : i < m
      · have hwk : IntKind.i64.wrap ((i : Int) + 1) = ((i + 1 : Nat) : Int) := by rw [IntKind.wrap_i64]; omega
        cases lc with
        | nil =>
          have HNO := Lib.hid (show loopP (nodesP lf) m l [] = none by rw [← HP.out, show m - i = (m - i - 1) + 1 by omega]; rfl)
          have HG := Lib.hid hG
          clear HP HO hG
          go_wp2_with fail
          refine (next_none rb A' c' wr hb).mono ?_
          rintro e w2 ⟨rfl, hB2⟩
          exact ⟨rfl, .fails HNO.out (gb_trans HG.out (gb_of _ hB2))⟩
        | cons x lc =>
          have HPX := Lib.hid (show (if x.f2 = 0 ∨ (x.f3 = 0 ∧ x.f4 = 0) then (nodesP lf x.f2 lc).bind fun p => loopP (nodesP lf) (m - (i + 1)) p.2 (out ++ [⟨x.f0, x.f1, decide (x.f2 ≠ 0), x.f3, x.f4, p.1⟩]) else none) = loopP (nodesP lf) m l [] by
            rw [← HP.out, show m - i = (m - (i + 1)) + 1 by omega]
            rfl)
          have hBw : Below w0.heap.size w0 wr := hB.trans (gb_low hG hB.size hrb)
          have HCX := Lib.hid (cutA_reads HC.out hc)
          have HCC := Lib.hid (show lc.length ≤ c' - 1 by simp only [List.length_cons] at hc; omega)
          have HNS := Lib.hid (next_some rb A' c' x lc wr hb (Kd.C_below HC.out hBw) hc)
          have HG := Lib.hid hG
          have HBW := Lib.hid hBw
          have HB0 := Lib.hid hb
          clear HP hG hc hb HC hBw
          go_wp2_with fail
          refine HNS.out.mono ?_
          rintro e W2 ⟨rfl, hg2, hr2⟩
          have HG2 := Lib.hid hg2
          have HR2 := Lib.hid hr2
          have hnw := blk_new W2 (.cells #[.string x.f0, .int .i64 x.f1, .int .i64 x.f2, .int .i64 x.f3, .int .i64 x.f4] 43)
          have hBn : Below W2.heap.size W2 (W2.alloc (.cells #[.string x.f0, .int .i64 x.f1, .int .i64 x.f2, .int .i64 x.f3, .int .i64 x.f4] 43)) := below_alloc (Below.refl _ _) _
          have hq0 := blk_cell hnw 0
          have hq1 := blk_cell hnw 1
          have hq2 := blk_cell hnw 2
          have hq3 := blk_cell hnw 3
          have hq4 := blk_cell hnw 4
          have HS := Lib.hid (fun W' (hb' : Below (W2.alloc (.cells #[.string x.f0, .int .i64 x.f1, .int .i64 x.f2, .int .i64 x.f3, .int .i64 x.f4] 43)).heap.size (W2.alloc (.cells #[.string x.f0, .int .i64 x.f1, .int .i64 x.f2, .int .i64 x.f3, .int .i64 x.f4] 43)) W') => (show W'.cell? ⟨W2.heap.size, 0, none⟩ = some (.string x.f0) ∧ W'.cell? ⟨W2.heap.size, 1, none⟩ = some (.int .i64 x.f1) ∧ W'.cell? ⟨W2.heap.size, 2, none⟩ = some (.int .i64 x.f2) ∧ W'.cell? ⟨W2.heap.size, 3, none⟩ = some (.int .i64 x.f3) ∧ W'.cell? ⟨W2.heap.size, 4, none⟩ = some (.int .i64 x.f4) from
            have h3 := blk_below hnw hb'
            ⟨blk_cell h3 0, blk_cell h3 1, blk_cell h3 2, blk_cell h3 3, blk_cell h3 4⟩))
          have HNW := Lib.hid hnw
          have HBN := Lib.hid hBn
          clear hg2 hr2 hnw hBn HNS
          by_cases f2 : x.f2 = 0
          · have e2 : (x.f2 == 0) = true := beq_iff_eq.2 f2
            have HF2 := Lib.hid f2
            have HCD := Lib.hid (show x.f2 = 0 ∨ (x.f3 = 0 ∧ x.f4 = 0) from .inl f2)
            clear f2
            have HPX2 := Lib.hid (show ((nodesP lf x.f2 lc).bind fun p => loopP (nodesP lf) (m - (i + 1)) p.2 (out ++ [⟨x.f0, x.f1, (x.f2 != 0), x.f3, x.f4, p.1⟩])) = loopP (nodesP lf) m l [] by
              have h := HPX.out
              rw [if_pos HCD.out] at h
              rw [← h, show decide (x.f2 ≠ 0) = (x.f2 != 0) from by by_cases h : x.f2 = 0 <;> simp [h]])
            go_wp2_with fail
            refine (must_ok _).mono ?_
            rintro e w' ⟨rfl, rfl⟩
            go_wp2_with fail
            refine wp_region_held_drew (S := fun W' => (W'.cell? ⟨W2.heap.size, 0, none⟩ = some (.string x.f0) ∧ W'.cell? ⟨W2.heap.size, 1, none⟩ = some (.int .i64 x.f1) ∧ W'.cell? ⟨W2.heap.size, 2, none⟩ = some (.int .i64 x.f2) ∧ W'.cell? ⟨W2.heap.size, 3, none⟩ = some (.int .i64 x.f3) ∧ W'.cell? ⟨W2.heap.size, 4, none⟩ = some (.int .i64 x.f4))) rfl (HS.out _ (Below.refl _ _).drew) (fun hHeld => ?_)
            have hg4 : W2.grownBy (W2.alloc (.cells #[.string x.f0, .int .i64 x.f1, .int .i64 x.f2, .int .i64 x.f3, .int .i64 x.f4] 43)).drew (some rb) := gb_of _ HBN.out.drew
            have hk4 : (W2.alloc (.cells #[.string x.f0, .int .i64 x.f1, .int .i64 x.f2, .int .i64 x.f3, .int .i64 x.f4] 43)).drew.heap[W2.heap.size]? = some (.cells #[.string x.f0, .int .i64 x.f1, .int .i64 x.f2, .int .i64 x.f3, .int .i64 x.f4] 43 (0, 0)) := HNW.out
            have hr4 := blk_below HR2.out HBN.out.drew
            have hb4 : Below w0.heap.size w0 _ := HBW.out.trans (gb_low (gb_trans HG2.out hg4) HBW.out.size hrb)
            generalize (W2.alloc (.cells #[.string x.f0, .int .i64 x.f1, .int .i64 x.f2, .int .i64 x.f3, .int .i64 x.f4] 43)).drew = W4 at *
            clear hq0 hq1 hq2 hq3 hq4
            refine tkL_ 0 (some 39) rfl rfl (v := ?aA0) ?bA0 ?cA0
            case bA0 => (intro W' hSw; (try dsimp only at hSw); go_simp; first | done | with_reducible rfl)
            simp only [Act.put, List.setIfInBounds_toArray, List.set_cons_zero, List.set_cons_succ]
            refine tkL_ 1 (some 40) rfl rfl (v := ?aA1) ?bA1 ?cA1
            case bA1 => (intro W' hSw; (try dsimp only at hSw); go_simp; first | done | with_reducible rfl)
            simp only [Act.put, List.setIfInBounds_toArray, List.set_cons_zero, List.set_cons_succ]
            refine tkL_ 2 (some 41) rfl rfl (v := ?aA2) ?bA2 ?cA2
            case bA2 => (intro W' hSw; (try dsimp only at hSw); go_simp; first | done | with_reducible rfl)
            simp only [Act.put, List.setIfInBounds_toArray, List.set_cons_zero, List.set_cons_succ]
            refine tkL_ 3 (some 42) rfl rfl (v := ?aA3) ?bA3 ?cA3
            case bA3 => (intro W' hSw; (try dsimp only at hSw); go_simp; first | done | with_reducible rfl)
            simp only [Act.put, List.setIfInBounds_toArray, List.set_cons_zero, List.set_cons_succ]
            refine tkL_ 4 (some 43) rfl rfl (v := ?aA4) ?bA4 ?cA4
            case bA4 => (intro W' hSw; (try dsimp only at hSw); go_simp; first | done | with_reducible rfl)
            simp only [Act.put, List.setIfInBounds_toArray, List.set_cons_zero, List.set_cons_succ]
            refine tkL_ 5 (some 44) rfl rfl (v := ?aA5) ?bA5 ?cA5
            case bA5 => (intro W' hSw; (try dsimp only at hSw); go_simp; first | done | with_reducible rfl)
            simp only [Act.put, List.setIfInBounds_toArray, List.set_cons_zero, List.set_cons_succ]
            refine tkL_ 6 (some 45) rfl rfl (v := ?aA6) ?bA6 ?cA6
            case bA6 => (intro W' hSw; (try dsimp only at hSw); go_simp; first | done | with_reducible rfl)
            simp only [Act.put, List.setIfInBounds_toArray, List.set_cons_zero, List.set_cons_succ]
            refine tkL_ 7 (some 46) rfl rfl (v := ?aA7) ?bA7 ?cA7
            case bA7 => (intro W' hSw; (try dsimp only at hSw); go_simp; first | done | with_reducible rfl)
            simp only [Act.put, List.setIfInBounds_toArray, List.set_cons_zero, List.set_cons_succ]
            refine tkL_ 8 (some 47) rfl rfl (v := ?aA8) ?bA8 ?cA8
            case bA8 => (intro W' hSw; (try dsimp only at hSw); go_simp; first | done | with_reducible rfl)
            simp only [Act.put, List.setIfInBounds_toArray, List.set_cons_zero, List.set_cons_succ]
            refine tkL_ 9 (some 48) rfl rfl (v := ?aA9) ?bA9 ?cA9
            case bA9 => (intro W' hSw; (try dsimp only at hSw); go_simp; first | done | with_reducible rfl)
            simp only [Act.put, List.setIfInBounds_toArray, List.set_cons_zero, List.set_cons_succ]
            refine tkL_ 10 (some 49) rfl rfl (v := ?aA10) ?bA10 ?cA10
            case bA10 => (intro W' hSw; (try dsimp only at hSw); go_simp; first | done | with_reducible rfl)
            simp only [Act.put, List.setIfInBounds_toArray, List.set_cons_zero, List.set_cons_succ]
            refine tkL_ 11 (some 50) rfl rfl (v := ?aA11) ?bA11 ?cA11
            case bA11 => (intro W' hSw; (try dsimp only at hSw); go_simp; first | done | with_reducible rfl)
            simp only [Act.put, List.setIfInBounds_toArray, List.set_cons_zero, List.set_cons_succ]
            refine tkL_ 12 (some 51) rfl rfl (v := ?aA12) ?bA12 ?cA12
            case bA12 => (intro W' hSw; (try dsimp only at hSw); go_simp; first | done | with_reducible rfl)
            simp only [Act.put, List.setIfInBounds_toArray, List.set_cons_zero, List.set_cons_succ]
            refine tkL_ 13 (some 52) rfl rfl (v := ?aA13) ?bA13 ?cA13
            case bA13 => (intro W' hSw; (try dsimp only at hSw); go_simp; first | done | with_reducible rfl)
            simp only [Act.put, List.setIfInBounds_toArray, List.set_cons_zero, List.set_cons_succ]
            refine tkL_ 14 (some 53) rfl rfl (v := ?aA14) ?bA14 ?cA14
            case bA14 => (intro W' hSw; (try dsimp only at hSw); go_simp; first | done | with_reducible rfl)
            simp only [Act.put, List.setIfInBounds_toArray, List.set_cons_zero, List.set_cons_succ]
            refine tkL_ 15 (some 54) rfl rfl (v := ?aA15) ?bA15 ?cA15
            case bA15 => (intro W' hSw; (try dsimp only at hSw); go_simp; first | done | with_reducible rfl)
            simp only [Act.put, List.setIfInBounds_toArray, List.set_cons_zero, List.set_cons_succ]
            refine tkL_ 16 (some 55) rfl rfl (v := ?aA16) ?bA16 ?cA16
            case bA16 => (intro W' hSw; (try dsimp only at hSw); go_simp; first | done | with_reducible rfl)
            simp only [Act.put, List.setIfInBounds_toArray, List.set_cons_zero, List.set_cons_succ]
            refine wpAnyH_ready (rs := [17]) (by kernel_rfl) (by simp) (AllReadyH.cons (at_dropL rfl) (fun KC hKC => ?_) AllReadyH.nil)
            go_simp
            refine (IHL.out x.f2 lc w0 W4 rb (cutA A' c') (c' - 1) (by omega) hb4 hrb hr4 HCC.out HCX.out).mono ?_
            rintro e W5 hN
            cases hnp : nodesP lf x.f2 lc with
            | none =>
              obtain ⟨rfl, hg5⟩ := hN.1 hnp
              have HNO := Lib.hid (show loopP (nodesP lf) m l [] = none by rw [← HPX2.out, hnp]; rfl)
              exact ⟨rfl, .fails HNO.out (gb_trans HG.out (gb_trans HG2.out (gb_trans hg4 hg5)))⟩
            | some q =>
              obtain ⟨v, A5, c5, rfl, hv, hg5, hr5, hc5, hC5⟩ := hN.2 q.1 q.2 hnp
              obtain ⟨A6, c6, rfl⟩ := Kd.R_slice hv
              have HPX3 := Lib.hid (show loopP (nodesP lf) (m - (i + 1)) q.2 (out ++ [⟨x.f0, x.f1, (x.f2 != 0), x.f3, x.f4, q.1⟩]) = loopP (nodesP lf) m l [] by rw [← HPX2.out, hnp]; rfl)
              have hrb2 := blk_lt HR2.out
              have hw24 := hg4.size
              have hk5 := gb_blk hg5 hk4 (Nat.ne_of_gt hrb2)
              have hgr5 : wr.grownBy W5 (some rb) := gb_trans HG2.out (gb_trans hg4 hg5)
              have hwr5 := hgr5.size
              have hwr2 := HG2.out.size
              have hb5 := HG.out.size
              have HO5 : Kd.R k62 62 W5 w'.heap.size (fun _ => True) u7 out := Kd.R_mono (Kd.R_step (Kd.R_bound HO.out) (fun k hk hlt => hgr5.block k hlt (fun e => by have := Option.some.inj e; have := hk.2.1; omega))) (fun _ _ => trivial)
              have hV5 : Kd.R k62 62 W5 w'.heap.size (fun k => True ∧ some k ≠ u7.ownBlock) (.slice A6 q.1.length c6) q.1 := Kd.R_mono (Kd.R_lower (Kd.R_bound hv) (show w'.heap.size ≤ W4.heap.size by omega)) (fun k hk => ⟨trivial, fun e => by have := Kd.R_lt HO.out k e.symm; have := hk.2.1; omega⟩)
              clear hN hg4 hk4 hr4 hb4
              refine hKC.out _ _ ⟨blk_cell hk5 0, blk_cell hk5 1, blk_cell hk5 2, blk_cell hk5 3, blk_cell hk5 4⟩ (fun hHeld => ?_)
              clear hKC KC
              try simp only [Act.put, List.setIfInBounds_toArray, List.set_cons_zero, List.set_cons_succ]
              refine tkL_ 18 (some 57) rfl rfl (v := ?aT18A) ?bT18A ?cT18A
              case bT18A => (intro W' hSw; (try dsimp only at hSw); go_simp; first | done | with_reducible rfl)
              simp only [Act.put, List.setIfInBounds_toArray, List.set_cons_zero, List.set_cons_succ]
              refine wpAnyH_ready (rs := [19]) (by kernel_rfl) (by simp) (AllReadyH.cons (at_dropL rfl) (fun KC hKC => ?_) AllReadyH.nil)
              go_simp
              have hk6 := blk_alloc hk5 (.cells #[.string x.f0, .int .i64 x.f1, .bool (x.f2 != 0), .int .i64 x.f3, .int .i64 x.f4, .slice A6 q.1.length c6] 62)
              refine hKC.out _ _ ⟨blk_cell hk6 0, blk_cell hk6 1, blk_cell hk6 2, blk_cell hk6 3, blk_cell hk6 4⟩ (fun hHeld => ?_)
              clear hKC KC
              try simp only [Act.put, List.setIfInBounds_toArray, List.set_cons_zero, List.set_cons_succ]
              refine wpAnyH_ready (rs := [20]) (by kernel_rfl) (by simp) (AllReadyH.cons (at_dropL rfl) (fun KC hKC => ?_) AllReadyH.nil)
              refine Kd.R_append_step k62 (w0 := W5) w'.heap.size rfl (.tmp 39) (.tmp 58) 22 62 (.agg #[(.string ⟨#[]⟩), (.int .i64 0), (.bool false), (.int .i64 0), (.int .i64 0), (.slice none 0 0)]) 72 rfl Tryd.underlying22 info62 rfl (by decide) (by decide) u7 out (⟨x.f0, x.f1, (x.f2 != 0), x.f3, x.f4, q.1⟩ : S62) [.string x.f0, .int .i64 x.f1, .bool (x.f2 != 0), .int .i64 x.f3, .int .i64 x.f4, .slice A6 q.1.length c6] (fun _ => True) (fun k => True ∧ some k ≠ u7.ownBlock) rfl rfl (@k62_mkM W5 _ _ (⟨x.f0, x.f1, (x.f2 != 0), x.f3, x.f4, q.1⟩ : S62) (.slice A6 q.1.length c6) hV5) (fun _ hk => hk) (fun _ _ => trivial) HO5 (Below.refl _ _) (by omega) (by omega) ?_
              intro v8 w8 hO8 hb8 hg8 hat8
              have hne8 : some W2.heap.size ≠ u7.ownBlock := fun e => by have := Kd.R_lt HO.out _ e.symm; omega
              have hner : some rb ≠ u7.ownBlock := fun e => by have := Kd.R_base HO.out _ e.symm; omega
              have hk8 := (hg8.block _ (blk_lt hk5) hne8).trans hk5
              have hr8 := (hg8.block _ (blk_lt hr5) hner).trans hr5
              refine hKC.out _ _ ⟨blk_cell hk8 0, blk_cell hk8 1, blk_cell hk8 2, blk_cell hk8 3, blk_cell hk8 4⟩ (fun hHeld => ?_)
              clear hKC KC
              try simp only [Act.put, List.setIfInBounds_toArray, List.set_cons_zero, List.set_cons_succ]
              refine tkL_ 21 (some 7) rfl rfl (v := ?aT21A) ?bT21A ?cT21A
              case bT21A => (intro W' hSw; (try dsimp only at hSw); go_simp; first | done | with_reducible rfl)
              simp only [Act.put, List.setIfInBounds_toArray, List.set_cons_zero, List.set_cons_succ]
              refine wpAnyH_done (by kernel_rfl) ?_ _
              have HRO := Lib.hid hO8
              have HGX := Lib.hid (gb_own_ (gb_trans HG.out hgr5) hg8 (fun k e => Kd.R_base HO.out k e))
              have HR8 := Lib.hid hr8
              have HC5 := Lib.hid hC5
              have HCL := Lib.hid hc5
              clear hO8 hr8 hk8 hk6 hk5 hr5 hC5 hc5 HO5 hV5 hv hg8 hb8 hat8 hgr5
              go_wp2_with fail
              go_roundw
              case rel => exact ⟨i + 1, out ++ [⟨x.f0, x.f1, (x.f2 != 0), x.f3, x.f4, q.1⟩], q.2, A5, c5, by omega, by go_num, HPX3, HRO, HGX.out, HR8.out, HCL.out, HC5, by simp only [List.length_append, List.length_singleton]; omega⟩
              case measure => simp [intOf]; omega
          · have e2 : (x.f2 == 0) = false := beq_eq_false_iff_ne.2 f2
            have HF2 := Lib.hid f2
            by_cases f3 : x.f3 = 0
            · have e3 : (x.f3 == 0) = true := beq_iff_eq.2 f3
              by_cases f4 : x.f4 = 0
              · have e4 : (x.f4 == 0) = true := beq_iff_eq.2 f4
                have HCD := Lib.hid (show x.f2 = 0 ∨ (x.f3 = 0 ∧ x.f4 = 0) from .inr ⟨f3, f4⟩)
                clear f2 f3 f4
                have HPX2 := Lib.hid (show ((nodesP lf x.f2 lc).bind fun p => loopP (nodesP lf) (m - (i + 1)) p.2 (out ++ [⟨x.f0, x.f1, (x.f2 != 0), x.f3, x.f4, p.1⟩])) = loopP (nodesP lf) m l [] by
                  have h := HPX.out
                  rw [if_pos HCD.out] at h
                  rw [← h, show decide (x.f2 ≠ 0) = (x.f2 != 0) from by by_cases h : x.f2 = 0 <;> simp [h]])
                go_wp2_with fail
                refine (must_ok _).mono ?_
                rintro e w' ⟨rfl, rfl⟩
                go_wp2_with fail
                refine wp_region_held_drew (S := fun W' => (W'.cell? ⟨W2.heap.size, 0, none⟩ = some (.string x.f0) ∧ W'.cell? ⟨W2.heap.size, 1, none⟩ = some (.int .i64 x.f1) ∧ W'.cell? ⟨W2.heap.size, 2, none⟩ = some (.int .i64 x.f2) ∧ W'.cell? ⟨W2.heap.size, 3, none⟩ = some (.int .i64 x.f3) ∧ W'.cell? ⟨W2.heap.size, 4, none⟩ = some (.int .i64 x.f4))) rfl (HS.out _ (Below.refl _ _).drew) (fun hHeld => ?_)
                have hg4 : W2.grownBy (W2.alloc (.cells #[.string x.f0, .int .i64 x.f1, .int .i64 x.f2, .int .i64 x.f3, .int .i64 x.f4] 43)).drew (some rb) := gb_of _ HBN.out.drew
                have hk4 : (W2.alloc (.cells #[.string x.f0, .int .i64 x.f1, .int .i64 x.f2, .int .i64 x.f3, .int .i64 x.f4] 43)).drew.heap[W2.heap.size]? = some (.cells #[.string x.f0, .int .i64 x.f1, .int .i64 x.f2, .int .i64 x.f3, .int .i64 x.f4] 43 (0, 0)) := HNW.out
                have hr4 := blk_below HR2.out HBN.out.drew
                have hb4 : Below w0.heap.size w0 _ := HBW.out.trans (gb_low (gb_trans HG2.out hg4) HBW.out.size hrb)
                generalize (W2.alloc (.cells #[.string x.f0, .int .i64 x.f1, .int .i64 x.f2, .int .i64 x.f3, .int .i64 x.f4] 43)).drew = W4 at *
                clear hq0 hq1 hq2 hq3 hq4
                refine tkL_ 0 (some 39) rfl rfl (v := ?aB0) ?bB0 ?cB0
                case bB0 => (intro W' hSw; (try dsimp only at hSw); go_simp; first | done | with_reducible rfl)
                simp only [Act.put, List.setIfInBounds_toArray, List.set_cons_zero, List.set_cons_succ]
                refine tkL_ 1 (some 40) rfl rfl (v := ?aB1) ?bB1 ?cB1
                case bB1 => (intro W' hSw; (try dsimp only at hSw); go_simp; first | done | with_reducible rfl)
                simp only [Act.put, List.setIfInBounds_toArray, List.set_cons_zero, List.set_cons_succ]
                refine tkL_ 2 (some 41) rfl rfl (v := ?aB2) ?bB2 ?cB2
                case bB2 => (intro W' hSw; (try dsimp only at hSw); go_simp; first | done | with_reducible rfl)
                simp only [Act.put, List.setIfInBounds_toArray, List.set_cons_zero, List.set_cons_succ]
                refine tkL_ 3 (some 42) rfl rfl (v := ?aB3) ?bB3 ?cB3
                case bB3 => (intro W' hSw; (try dsimp only at hSw); go_simp; first | done | with_reducible rfl)
                simp only [Act.put, List.setIfInBounds_toArray, List.set_cons_zero, List.set_cons_succ]
                refine tkL_ 4 (some 43) rfl rfl (v := ?aB4) ?bB4 ?cB4
                case bB4 => (intro W' hSw; (try dsimp only at hSw); go_simp; first | done | with_reducible rfl)
                simp only [Act.put, List.setIfInBounds_toArray, List.set_cons_zero, List.set_cons_succ]
                refine tkL_ 5 (some 44) rfl rfl (v := ?aB5) ?bB5 ?cB5
                case bB5 => (intro W' hSw; (try dsimp only at hSw); go_simp; first | done | with_reducible rfl)
                simp only [Act.put, List.setIfInBounds_toArray, List.set_cons_zero, List.set_cons_succ]
                refine tkL_ 6 (some 45) rfl rfl (v := ?aB6) ?bB6 ?cB6
                case bB6 => (intro W' hSw; (try dsimp only at hSw); go_simp; first | done | with_reducible rfl)
                simp only [Act.put, List.setIfInBounds_toArray, List.set_cons_zero, List.set_cons_succ]
                refine tkL_ 7 (some 46) rfl rfl (v := ?aB7) ?bB7 ?cB7
                case bB7 => (intro W' hSw; (try dsimp only at hSw); go_simp; first | done | with_reducible rfl)
                simp only [Act.put, List.setIfInBounds_toArray, List.set_cons_zero, List.set_cons_succ]
                refine tkL_ 8 (some 47) rfl rfl (v := ?aB8) ?bB8 ?cB8
                case bB8 => (intro W' hSw; (try dsimp only at hSw); go_simp; first | done | with_reducible rfl)
                simp only [Act.put, List.setIfInBounds_toArray, List.set_cons_zero, List.set_cons_succ]
                refine tkL_ 9 (some 48) rfl rfl (v := ?aB9) ?bB9 ?cB9
                case bB9 => (intro W' hSw; (try dsimp only at hSw); go_simp; first | done | with_reducible rfl)
                simp only [Act.put, List.setIfInBounds_toArray, List.set_cons_zero, List.set_cons_succ]
                refine tkL_ 10 (some 49) rfl rfl (v := ?aB10) ?bB10 ?cB10
                case bB10 => (intro W' hSw; (try dsimp only at hSw); go_simp; first | done | with_reducible rfl)
                simp only [Act.put, List.setIfInBounds_toArray, List.set_cons_zero, List.set_cons_succ]
                refine tkL_ 11 (some 50) rfl rfl (v := ?aB11) ?bB11 ?cB11
                case bB11 => (intro W' hSw; (try dsimp only at hSw); go_simp; first | done | with_reducible rfl)
                simp only [Act.put, List.setIfInBounds_toArray, List.set_cons_zero, List.set_cons_succ]
                refine tkL_ 12 (some 51) rfl rfl (v := ?aB12) ?bB12 ?cB12
                case bB12 => (intro W' hSw; (try dsimp only at hSw); go_simp; first | done | with_reducible rfl)
                simp only [Act.put, List.setIfInBounds_toArray, List.set_cons_zero, List.set_cons_succ]
                refine tkL_ 13 (some 52) rfl rfl (v := ?aB13) ?bB13 ?cB13
                case bB13 => (intro W' hSw; (try dsimp only at hSw); go_simp; first | done | with_reducible rfl)
                simp only [Act.put, List.setIfInBounds_toArray, List.set_cons_zero, List.set_cons_succ]
                refine tkL_ 14 (some 53) rfl rfl (v := ?aB14) ?bB14 ?cB14
                case bB14 => (intro W' hSw; (try dsimp only at hSw); go_simp; first | done | with_reducible rfl)
                simp only [Act.put, List.setIfInBounds_toArray, List.set_cons_zero, List.set_cons_succ]
                refine tkL_ 15 (some 54) rfl rfl (v := ?aB15) ?bB15 ?cB15
                case bB15 => (intro W' hSw; (try dsimp only at hSw); go_simp; first | done | with_reducible rfl)
                simp only [Act.put, List.setIfInBounds_toArray, List.set_cons_zero, List.set_cons_succ]
                refine tkL_ 16 (some 55) rfl rfl (v := ?aB16) ?bB16 ?cB16
                case bB16 => (intro W' hSw; (try dsimp only at hSw); go_simp; first | done | with_reducible rfl)
                simp only [Act.put, List.setIfInBounds_toArray, List.set_cons_zero, List.set_cons_succ]
                refine wpAnyH_ready (rs := [17]) (by kernel_rfl) (by simp) (AllReadyH.cons (at_dropL rfl) (fun KC hKC => ?_) AllReadyH.nil)
                go_simp
                refine (IHL.out x.f2 lc w0 W4 rb (cutA A' c') (c' - 1) (by omega) hb4 hrb hr4 HCC.out HCX.out).mono ?_
                rintro e W5 hN
                cases hnp : nodesP lf x.f2 lc with
                | none =>
                  obtain ⟨rfl, hg5⟩ := hN.1 hnp
                  have HNO := Lib.hid (show loopP (nodesP lf) m l [] = none by rw [← HPX2.out, hnp]; rfl)
                  exact ⟨rfl, .fails HNO.out (gb_trans HG.out (gb_trans HG2.out (gb_trans hg4 hg5)))⟩
                | some q =>
                  obtain ⟨v, A5, c5, rfl, hv, hg5, hr5, hc5, hC5⟩ := hN.2 q.1 q.2 hnp
                  obtain ⟨A6, c6, rfl⟩ := Kd.R_slice hv
                  have HPX3 := Lib.hid (show loopP (nodesP lf) (m - (i + 1)) q.2 (out ++ [⟨x.f0, x.f1, (x.f2 != 0), x.f3, x.f4, q.1⟩]) = loopP (nodesP lf) m l [] by rw [← HPX2.out, hnp]; rfl)
                  have hrb2 := blk_lt HR2.out
                  have hw24 := hg4.size
                  have hk5 := gb_blk hg5 hk4 (Nat.ne_of_gt hrb2)
                  have hgr5 : wr.grownBy W5 (some rb) := gb_trans HG2.out (gb_trans hg4 hg5)
                  have hwr5 := hgr5.size
                  have hwr2 := HG2.out.size
                  have hb5 := HG.out.size
                  have HO5 : Kd.R k62 62 W5 w'.heap.size (fun _ => True) u7 out := Kd.R_mono (Kd.R_step (Kd.R_bound HO.out) (fun k hk hlt => hgr5.block k hlt (fun e => by have := Option.some.inj e; have := hk.2.1; omega))) (fun _ _ => trivial)
                  have hV5 : Kd.R k62 62 W5 w'.heap.size (fun k => True ∧ some k ≠ u7.ownBlock) (.slice A6 q.1.length c6) q.1 := Kd.R_mono (Kd.R_lower (Kd.R_bound hv) (show w'.heap.size ≤ W4.heap.size by omega)) (fun k hk => ⟨trivial, fun e => by have := Kd.R_lt HO.out k e.symm; have := hk.2.1; omega⟩)
                  clear hN hg4 hk4 hr4 hb4
                  refine hKC.out _ _ ⟨blk_cell hk5 0, blk_cell hk5 1, blk_cell hk5 2, blk_cell hk5 3, blk_cell hk5 4⟩ (fun hHeld => ?_)
                  clear hKC KC
                  try simp only [Act.put, List.setIfInBounds_toArray, List.set_cons_zero, List.set_cons_succ]
                  refine tkL_ 18 (some 57) rfl rfl (v := ?aT18B) ?bT18B ?cT18B
                  case bT18B => (intro W' hSw; (try dsimp only at hSw); go_simp; first | done | with_reducible rfl)
                  simp only [Act.put, List.setIfInBounds_toArray, List.set_cons_zero, List.set_cons_succ]
                  refine wpAnyH_ready (rs := [19]) (by kernel_rfl) (by simp) (AllReadyH.cons (at_dropL rfl) (fun KC hKC => ?_) AllReadyH.nil)
                  go_simp
                  have hk6 := blk_alloc hk5 (.cells #[.string x.f0, .int .i64 x.f1, .bool (x.f2 != 0), .int .i64 x.f3, .int .i64 x.f4, .slice A6 q.1.length c6] 62)
                  refine hKC.out _ _ ⟨blk_cell hk6 0, blk_cell hk6 1, blk_cell hk6 2, blk_cell hk6 3, blk_cell hk6 4⟩ (fun hHeld => ?_)
                  clear hKC KC
                  try simp only [Act.put, List.setIfInBounds_toArray, List.set_cons_zero, List.set_cons_succ]
                  refine wpAnyH_ready (rs := [20]) (by kernel_rfl) (by simp) (AllReadyH.cons (at_dropL rfl) (fun KC hKC => ?_) AllReadyH.nil)
                  refine Kd.R_append_step k62 (w0 := W5) w'.heap.size rfl (.tmp 39) (.tmp 58) 22 62 (.agg #[(.string ⟨#[]⟩), (.int .i64 0), (.bool false), (.int .i64 0), (.int .i64 0), (.slice none 0 0)]) 72 rfl Tryd.underlying22 info62 rfl (by decide) (by decide) u7 out (⟨x.f0, x.f1, (x.f2 != 0), x.f3, x.f4, q.1⟩ : S62) [.string x.f0, .int .i64 x.f1, .bool (x.f2 != 0), .int .i64 x.f3, .int .i64 x.f4, .slice A6 q.1.length c6] (fun _ => True) (fun k => True ∧ some k ≠ u7.ownBlock) rfl rfl (@k62_mkM W5 _ _ (⟨x.f0, x.f1, (x.f2 != 0), x.f3, x.f4, q.1⟩ : S62) (.slice A6 q.1.length c6) hV5) (fun _ hk => hk) (fun _ _ => trivial) HO5 (Below.refl _ _) (by omega) (by omega) ?_
                  intro v8 w8 hO8 hb8 hg8 hat8
                  have hne8 : some W2.heap.size ≠ u7.ownBlock := fun e => by have := Kd.R_lt HO.out _ e.symm; omega
                  have hner : some rb ≠ u7.ownBlock := fun e => by have := Kd.R_base HO.out _ e.symm; omega
                  have hk8 := (hg8.block _ (blk_lt hk5) hne8).trans hk5
                  have hr8 := (hg8.block _ (blk_lt hr5) hner).trans hr5
                  refine hKC.out _ _ ⟨blk_cell hk8 0, blk_cell hk8 1, blk_cell hk8 2, blk_cell hk8 3, blk_cell hk8 4⟩ (fun hHeld => ?_)
                  clear hKC KC
                  try simp only [Act.put, List.setIfInBounds_toArray, List.set_cons_zero, List.set_cons_succ]
                  refine tkL_ 21 (some 7) rfl rfl (v := ?aT21B) ?bT21B ?cT21B
                  case bT21B => (intro W' hSw; (try dsimp only at hSw); go_simp; first | done | with_reducible rfl)
                  simp only [Act.put, List.setIfInBounds_toArray, List.set_cons_zero, List.set_cons_succ]
                  refine wpAnyH_done (by kernel_rfl) ?_ _
                  have HRO := Lib.hid hO8
                  have HGX := Lib.hid (gb_own_ (gb_trans HG.out hgr5) hg8 (fun k e => Kd.R_base HO.out k e))
                  have HR8 := Lib.hid hr8
                  have HC5 := Lib.hid hC5
                  have HCL := Lib.hid hc5
                  clear hO8 hr8 hk8 hk6 hk5 hr5 hC5 hc5 HO5 hV5 hv hg8 hb8 hat8 hgr5
                  go_wp2_with fail
                  go_roundw
                  case rel => exact ⟨i + 1, out ++ [⟨x.f0, x.f1, (x.f2 != 0), x.f3, x.f4, q.1⟩], q.2, A5, c5, by omega, by go_num, HPX3, HRO, HGX.out, HR8.out, HCL.out, HC5, by simp only [List.length_append, List.length_singleton]; omega⟩
                  case measure => simp [intOf]; omega
              · have e4 : (x.f4 == 0) = false := beq_eq_false_iff_ne.2 f4
                have HF4 := Lib.hid f4
                clear f2 f3 f4
                have HNO := Lib.hid (show loopP (nodesP lf) m l [] = none by rw [← HPX.out, if_neg (fun h => h.elim (fun h => HF2.out h) (fun h => HF4.out h.2))])
                go_wp2_with fail
                refine (must_no _).mono ?_
                rintro e w' ⟨rfl, rfl⟩
                exact ⟨rfl, .fails HNO.out (gb_trans HG.out (gb_trans HG2.out (gb_of _ HBN.out)))⟩
            · have e3 : (x.f3 == 0) = false := beq_eq_false_iff_ne.2 f3
              have HF3 := Lib.hid f3
              clear f2 f3
              have HNO := Lib.hid (show loopP (nodesP lf) m l [] = none by rw [← HPX.out, if_neg (fun h => h.elim (fun h => HF2.out h) (fun h => HF3.out h.1))])
              go_wp2_with fail
              refine (must_no _).mono ?_
              rintro e w' ⟨rfl, rfl⟩
              exact ⟨rfl, .fails HNO.out (gb_trans HG.out (gb_trans HG2.out (gb_of _ HBN.out)))⟩
      · have hie : i = m := by omega
        have HEND := Lib.hid (show loopP (nodesP lf) m l [] = some (out, lc) by rw [← HP.out, hie, Nat.sub_self]; rfl)
        have HRO := HO
        have HG := Lib.hid hG
        have HR8 := Lib.hid hb
        have HCL := Lib.hid hc
        clear hG hb hc HP hie
        go_wp2_with fail
        go_ret
        refine ⟨fun h => ?_, fun ns rest h => ?_⟩
        · rw [HEND.out] at h
          cases h
        · rw [HEND.out] at h
          cases h
          exact ⟨u7, _, _, rfl, HRO.out, HG.out, HR8.out, HCL.out, HC.out⟩
theorem nodes_all (left : Nat) : NodesAt left := by
  induction left using Nat.strongRecOn with
  | _ left ih => exact nodes_step left ih


end Go.Proofs.YtjdjlccdidfgoaaDoor.H
end
section
-- Laid by this session's hprint.py, out of the kit's print.py and texts of the session. Not trusted: Lean checks it.
namespace Go.Proofs.YtjdjlccdidfgoaaDoor.H
open Go.RowKit Go.Proofs.YtjdjlccdidfgoaaDoorW.PrintWords Go.Proofs.YtjdjlccdidfgoaaDoorW.PrintLast Go.Proofs.YtjdjlccdidfgoaaDoorW.PrintMore
attribute [local go_sem] max2_int min2_int max_two min_two max_three min_three max_four min_four   -- for this text's walks alone
set_option linter.unusedVariables false
set_option linter.unusedSimpArgs false

-- OVPART Derived.Lib.Hide Derived.RangeFuncBox
/-! ### schema_Leaves: function 18 -/
theorem fineN_num (n : Nat) : ∀ (l : List S62), numNs l ≤ n → ∀ (deep left : Int) (seen : List (List UInt8)), 0 ≤ left → (fineN l deep left seen).1 = true → (fineN l deep left seen).2 = left - numNs l ∧ 0 ≤ (fineN l deep left seen).2 := by
  induction n with
  | zero =>
    intro l hl
    cases l with
    | nil =>
      intro deep left seen h0 _
      rw [fineN]
      exact ⟨by simp [numNs], h0⟩
    | cons x xs => rw [numNs_cons] at hl; omega
  | succ n ih =>
    intro l
    induction l with
    | nil =>
      intro _ deep left seen h0 _
      rw [fineN]
      exact ⟨by simp [numNs], h0⟩
    | cons x xs ihx =>
      intro hl deep left seen h0 h
      rw [numNs_cons] at hl ⊢
      rw [fineN_cons] at h ⊢
      by_cases hb : left - 1 < 0 ∨ deep > 32 ∨ x.f0.data.toList ∈ seen ∨ okN x = false
      · rw [if_pos hb] at h
        cases h
      · rw [if_neg hb] at h ⊢
        by_cases hf : (fineN x.f5 (deep + 1) (left - 1) []).1 = false
        · rw [if_pos hf] at h
          cases h
        · rw [if_neg hf] at h ⊢
          have hl0 : ¬ left - 1 < 0 := fun h => hb (.inl h)
          obtain ⟨h1, h2⟩ := ih x.f5 (by omega) (deep + 1) (left - 1) [] (by omega) (by simpa using hf)
          obtain ⟨h3, h4⟩ := ihx (by omega) deep _ _ h2 h
          exact ⟨by rw [h3, h1]; omega, h4⟩
theorem Check_num {s : ByteArray} {l : List S62} (h : schema_Check.f s l = some 0) : numNs l ≤ 256 := by
  unfold schema_Check.f at h
  split at h
  case isFalse => cases h
  case isTrue =>
    by_cases hc : nameB s = true ∧ l.length ≠ 0 ∧ (fineN l 1 256 []).1 = true
    · obtain ⟨h1, h2⟩ := fineN_num _ l (Nat.le_refl _) 1 256 [] (by decide) hc.2.2
      omega
    · rw [if_neg hc] at h
      cases h
end Go.Proofs.YtjdjlccdidfgoaaDoor.H
end
section
-- Laid by this session's hprint.py, out of the kit's print.py and texts of the session. Not trusted: Lean checks it.
namespace Go.Proofs.YtjdjlccdidfgoaaDoor.H
open Go.RowKit Go.Proofs.YtjdjlccdidfgoaaDoorW.PrintWords Go.Proofs.YtjdjlccdidfgoaaDoorW.PrintLast Go.Proofs.YtjdjlccdidfgoaaDoorW.PrintMore
attribute [local go_sem] max2_int min2_int max_two min_two max_three min_three max_four min_four   -- for this text's walks alone
set_option linter.unusedVariables false
set_option linter.unusedSimpArgs false

-- OVPART Derived.Lib.Hide
/-! ### schema_Flat: function 16 -/
def schema_Flat.f (a0_0 : ByteArray) (l0_1 : List S62) : Option (List S43 × Int) := (schema_Check.f a0_0 l0_1).bind fun e => if e ≠ 0 then some ([], 2) else some (⟨a0_0, 0, (l0_1.length : Int), 0, 0⟩ :: flatL l0_1, 0)
set_option maxHeartbeats 8000000 in
set_option maxRecDepth 100000 in
theorem schema_Flat.calls (a0_0 : ByteArray) (A0_1 : Option Addr) (c0_1 : Nat) (l0_1 : List (S62)) (r1 : List (S43)) (r2 : Int) (w : World) (hr0_1 : Kd.C k62 w A0_1 l0_1.length l0_1) (hc0_1 : l0_1.length ≤ c0_1) (h : schema_Flat.f a0_0 l0_1 = some (r1, r2)) (hT_ : Tabs_ w := by repeat (first | exact hT_ | exact Tabs_.below hT_ HB.out | exact Tabs_.below hT_ HB | with_reducible refine Tabs_.alloc ?_ _ | with_reducible refine Tabs_.drewN ?_ _ | with_reducible refine Tabs_.drew ?_)) :
    Calls Tryd.prog 16 #[.agg #[.string a0_0, .slice A0_1 l0_1.length c0_1]] w fun e w' => ∃ v0_ : Value, e = .returned (.tuple #[v0_, .int .i64 r2]) ∧ Kd.R k43 43 w' w.heap.size (fun _ => True) v0_ r1 ∧ Below w.heap.size w w' := by
  have hmf : ∀ (fn : Fn) (first cap : Array Value) (w : World), (Instr.makeFunc fn first cap).run Tryd.prog w = .ok (.func fn first cap) w := fun _ _ _ _ => rfl
  unfold schema_Flat.f at h
  obtain ⟨e, he, h⟩ := Option.bind_eq_some_iff.mp h
  have hB0 : Below w.heap.size w (w.alloc (.cells #[.string a0_0, .slice A0_1 l0_1.length c0_1] 24)) := below_alloc (Below.refl _ _) _
  have hc0 := blk_cell (blk_new w (.cells #[.string a0_0, .slice A0_1 l0_1.length c0_1] 24)) 0
  have hc1 := blk_cell (blk_new w (.cells #[.string a0_0, .slice A0_1 l0_1.length c0_1] 24)) 1
  have hbk := blk_new w (.cells #[.string a0_0, .slice A0_1 l0_1.length c0_1] 24)
  have hr1 := Kd.C_below hr0_1 hB0
  have hT1 := Tabs_.below hT_ hB0
  go_enter Tryd.func16, Tryd.ntmps16
  go_wp2_with fail
  refine (schema_Check.calls a0_0 A0_1 c0_1 l0_1 e _ hr1 hc0_1 he hT1).mono ?_
  rintro e1 w2 ⟨rfl, hb2⟩
  have hB2 := below_step hB0 hb2
  have hr2 := Kd.C_below hr1 hb2
  have hbk2 := blk_below hbk hb2
  clear hr1 hT1 hB0 hc0 hc1 hbk hb2 hr0_1
  by_cases h0 : e = 0
  · subst h0
    obtain ⟨rfl, rfl⟩ : ⟨a0_0, 0, (l0_1.length : Int), 0, 0⟩ :: flatL l0_1 = r1 ∧ (0 : Int) = r2 := by simpa using h
    have HNUM := Lib.hid (Check_num he)
    -- the list's first block, its box, the walk's
    have hd0 := blk_cell hbk2 0
    have hd1 := blk_cell hbk2 1
    have hmax := Kd.C_max hr2
    have hrow : Kd.R k43 43 (w2.alloc (.cells #[.string a0_0, .int .i64 0, .int .i64 l0_1.length, .int .i64 0, .int .i64 0] 43)) w2.heap.size (fun _ => True) (.slice (some ⟨w2.heap.size, 0, none⟩) 1 1) [⟨a0_0, 0, (l0_1.length : Int), 0, 0⟩] :=
      ⟨fun _ _ => trivial, [.string a0_0, .int .i64 0, .int .i64 l0_1.length, .int .i64 0, .int .i64 0], World.ownsRow_lit w2 #[.string a0_0, .int .i64 0, .int .i64 l0_1.length, .int .i64 0, .int .i64 0] 1 (Nat.le_refl _) (by decide) rfl, (Reps.none _ _).snoc (@k43_mkM _ _ _ (⟨a0_0, 0, (l0_1.length : Int), 0, 0⟩ : S43)) rfl⟩
    have hB3 := below_alloc (Below.refl w2.heap.size w2) (.cells #[.string a0_0, .int .i64 0, .int .i64 l0_1.length, .int .i64 0, .int .i64 0] 43)
    have hB4 := below_alloc hB3 (.cells #[.slice (some ⟨w2.heap.size, 0, none⟩) 1 1] 31)
    have hB5 := below_alloc hB4 (.cells #[flV (w2.heap.size + 1) (w2.heap.size + 1 + 1)] 81)
    have hkb := blk_alloc (blk_new (w2.alloc (.cells #[.string a0_0, .int .i64 0, .int .i64 l0_1.length, .int .i64 0, .int .i64 0] 43)) (.cells #[.slice (some ⟨w2.heap.size, 0, none⟩) 1 1] 31)) (.cells #[flV (w2.heap.size + 1) (w2.heap.size + 1 + 1)] 81)
    have hkc := blk_new ((w2.alloc (.cells #[.string a0_0, .int .i64 0, .int .i64 l0_1.length, .int .i64 0, .int .i64 0] 43)).alloc (.cells #[.slice (some ⟨w2.heap.size, 0, none⟩) 1 1] 31)) (.cells #[flV (w2.heap.size + 1) (w2.heap.size + 1 + 1)] 81)
    rw [World.size_alloc] at hkb
    have hz : ((w2.alloc (.cells #[.string a0_0, .int .i64 0, .int .i64 l0_1.length, .int .i64 0, .int .i64 0] 43)).alloc (.cells #[.slice (some ⟨w2.heap.size, 0, none⟩) 1 1] 31)).heap.size = w2.heap.size + 1 + 1 := by rw [World.size_alloc, World.size_alloc]
    rw [hz] at hkc
    have hrow6 := Kd.R_below hrow (below_alloc (below_alloc (Below.refl _ _) (.cells #[.slice (some ⟨w2.heap.size, 0, none⟩) 1 1] 31)) (.cells #[flV (w2.heap.size + 1) (w2.heap.size + 1 + 1)] 81))
    have hFB : FlB w2 (((w2.alloc (.cells #[.string a0_0, .int .i64 0, .int .i64 l0_1.length, .int .i64 0, .int .i64 0] 43)).alloc (.cells #[.slice (some ⟨w2.heap.size, 0, none⟩) 1 1] 31)).alloc (.cells #[flV (w2.heap.size + 1) (w2.heap.size + 1 + 1)] 81)) w2.heap.size (w2.heap.size + 1) (w2.heap.size + 1 + 1) (.slice (some ⟨w2.heap.size, 0, none⟩) 1 1) [⟨a0_0, 0, (l0_1.length : Int), 0, 0⟩] := ⟨hB5, hkb, hkc, hrow6, hB5.size, Nat.le_succ _, Nat.le_refl _⟩
    have hg1 := blk_cell (blk_below hbk2 hB5) 1
    have HWK := Lib.hid (flat_all (numNs l0_1 + 1) l0_1 (Nat.lt_succ_self _) w2 w2.heap.size (w2.heap.size + 1) (w2.heap.size + 1 + 1) A0_1 c0_1 _ _ _ hr2 hFB (by have := HNUM.out; simp only [List.length_singleton]; omega))
    have HB2 := Lib.hid hB2
    clear hrow hB3 hB4 hB5 hkb hkc hrow6 hFB hz h he hr2 hbk2 hT_ hB2
    go_wp2_with fail
    refine HWK.out.mono ?_
    rintro e w7 ⟨rfl, v7, hF7⟩
    have hv7 := blk_cell hF7.box 0
    have HE := Lib.hid (And.intro (Kd.R_lower hF7.row HB2.out.size) (HB2.out.trans (hF7.below.mono HB2.out.size)))
    clear hF7 HWK
    go_wp2_with fail
    go_ret2
    exact ⟨v7, rfl, HE.out.1, HE.out.2⟩
  · have hr : ([] : List S43) = r1 ∧ (2 : Int) = r2 := by
      rw [if_pos h0] at h
      simpa using h
    obtain ⟨rfl, rfl⟩ := hr
    have HB2 := Lib.hid hB2
    have hne : decide (e = 0) = false := decide_eq_false h0
    clear h he hB2 hr2 hbk2 hT_ hc0_1
    go_wp2_with fail
    go_ret2
    exact ⟨_, rfl, Kd.R_nil _ _ _ _ _, HB2.out⟩


end Go.Proofs.YtjdjlccdidfgoaaDoor.H
end
