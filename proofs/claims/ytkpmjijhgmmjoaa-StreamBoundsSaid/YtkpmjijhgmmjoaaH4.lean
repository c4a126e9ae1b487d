-- Laid by this session's hprint.py, out of the kit's print.py and texts of the session. Not trusted: Lean checks it.
import Derived.Test.YtkpmjijhgmmjoaaH0
import Derived.Test.YtkpmjijhgmmjoaaH2
import Derived.Test.YtkpmjijhgmmjoaaH3
import Derived.Laws.Rows
import Derived.Test.YtkpmjijhgmmjoaaH2
import Derived.Test.YtkpmjijhgmmjoaaH3
namespace Go.Proofs.Ytkpmjijhgmmjoaa.H
open Go.RowKit Go.Proofs.YtkpmjijhgmmjoaaW.PrintWords Go.Proofs.YtkpmjijhgmmjoaaW.PrintLast Go.Proofs.YtkpmjijhgmmjoaaW.PrintMore
attribute [local go_sem] max2_int min2_int max_two min_two max_three min_three max_four min_four   -- for this text's walks alone
set_option linter.unusedVariables false
set_option linter.unusedSimpArgs false

-- OVPART Derived.Laws.Rows Derived.Test.YtkpmjijhgmmjoaaH2 Derived.Test.YtkpmjijhgmmjoaaH3
/-! ### stream_moved_byte: function 19 -/
-- CALLS marquetry/stream.places
open Go.Shelf
attribute [local go_sem] Oper.semAt_some
theorem way_r (n : Nat) (a b : Int) (W : World) : CallsIn Fence.wide n Try.prog 22 #[.int .i64 a, .int .i64 b] W fun e W' => e = .returned (.tuple #[.int .i64 b, .int .i64 a]) ∧ W' = W := by
  refine callsIn_of_wp Try.func22 rfl trivial ?_ rfl
  simp only [Try.ntmps22, List.size_toArray, List.length_cons, List.length_nil, Nat.reduceAdd, Nat.reduceSub, Array.replicate_succ, Array.replicate_zero, List.push_toArray, List.append_toArray, List.nil_append, List.cons_append]
  gi_wp2
  go_ret2
  exact ⟨rfl, rfl⟩
open Go.Proofs.YtkpmjijhgmmjoaaP in
def outr (w n : Nat) (l : List Int) (pre : List Nat) : List Int := pre.foldl (fun o x => o.set (x % (w * n)) (l.getD (place w n (x % (w * n))) 0)) (List.replicate (w * n) 0)
theorem outr_nil (w n : Nat) (l : List Int) : outr w n l [] = List.replicate (w * n) 0 := rfl
open Go.Proofs.YtkpmjijhgmmjoaaP in
theorem outr_snoc (w n : Nat) (l : List Int) (pre : List Nat) (x : Nat) : outr w n l (pre ++ [x]) = (outr w n l pre).set (x % (w * n)) (l.getD (place w n (x % (w * n))) 0) := by simp [outr]
theorem outr_len (w n : Nat) (l : List Int) (pre : List Nat) : (outr w n l pre).length = w * n := by
  unfold outr
  suffices h : ∀ o : List Int, (pre.foldl (fun o x => o.set (x % (w * n)) (l.getD (Go.Proofs.YtkpmjijhgmmjoaaP.place w n (x % (w * n))) 0)) o).length = o.length by rw [h, List.length_replicate]
  induction pre with
  | nil => intro o; rfl
  | cons x xs ih => intro o; rw [List.foldl_cons, ih, List.length_set]
open Go.Proofs.YtkpmjijhgmmjoaaP in
theorem outr_range (w n : Nat) (l : List Int) (hl : l.length = w * n) (hw : 0 < w) (k : Nat) (hk : k ≤ w * n) : outr w n l (List.range k) = got w l k := by
  have hdiv : l.length / w = n := by rw [hl, Nat.mul_div_cancel_left _ hw]
  have hmod : l.length % w = 0 := by rw [hl, Nat.mul_mod_right]
  induction k with
  | zero => rw [List.range_zero, outr_nil, got_zero, hl]
  | succ k ih =>
    rw [List.range_succ, outr_snoc, ih (by omega), Nat.mod_eq_of_lt (by omega), ← hdiv, got_next w l hmod k (by omega)]
set_option maxRecDepth 100000 in
set_option maxHeartbeats 2000000 in
theorem movedR (A : Option Addr) (c : Nat) (l : List Int) (w : Nat) (hw0 : 1 ≤ w) (hw1 : w ≤ 64) (hlen : l.length ≤ 1048576) (hd : l.length % w = 0) (hpos : 0 < l.length) (W : World) (hr : Kd.C (Kd.int .u8) W A l.length l) (hc : l.length ≤ c) :
    Calls Try.prog 19 #[.int .i64 w, .slice A l.length c, .func (.func 22) #[] #[]] W fun e W' => ∃ v, e = .returned v ∧ Kd.R (Kd.int .u8) 5 W' W.heap.size (fun _ => True) v (Go.Proofs.YtkpmjijhgmmjoaaP.back w l) ∧ Below W.heap.size W W' := by
  have hmk := run_make_row' (P := Try.prog) 22 5 (.int .u8 0) 1 Try.underlying22 info_u8_ rfl .i64 .i64 l.length (by omega) (by omega)
  have bl : (((l.length : Nat) : Int) == 0) = false := beq_eq_false_iff_ne.mpr (by omega)
  obtain ⟨cnt, hcnt⟩ : ∃ cnt, cnt = l.length / w := ⟨_, rfl⟩
  have hwc : w * cnt = l.length := by rw [hcnt]; exact Go.Proofs.YtkpmjijhgmmjoaaP.whole hd
  have hq : wrap64 ((l.length : Int) / (w : Int)) = (cnt : Int) := by
    have e : ((l.length : Int) / (w : Int)) = (cnt : Int) := by rw [hcnt]; rfl
    rw [e]
    have : cnt ≤ l.length := by rw [← hwc]; exact Nat.le_mul_of_pos_left _ (by omega)
    unfold wrap64; omega
  have HCNT := Lib.hid hcnt
  have HWC := Lib.hid hwc
  have HD := Lib.hid hd
  clear hcnt hwc hd
  refine (callsIn_wide (n := 6)).1 ?_
  refine callsIn_of_wp_marks Try.func19 rfl trivial ?_ rfl
  simp only [Try.ntmps19, List.size_toArray, List.length_cons, List.length_nil, Nat.reduceAdd, Nat.reduceSub, Array.replicate_succ, Array.replicate_zero, List.push_toArray, List.append_toArray, List.nil_append, List.cons_append]
  gi_wp2
  refine ⟨trivial, ?_⟩
  refine (places_in _ w cnt hw0 hw1 (by rw [HWC.out]; exact hlen) _).mono ?_
  rintro e w1 ⟨rfl, c0, c1, hb, hB⟩
  gi_wp2
  simp only [World.size_alloc] at c0 c1 hb hB
  have hcA : w1.cell? ⟨W.heap.size, 0, none⟩ = some (.slice A l.length c) := (hB.cell (p := ⟨W.heap.size, 0, none⟩) (by show W.heap.size < _; omega)).trans (by simp [go_sem])
  have hcF : w1.cell? ⟨W.heap.size + 1, 0, none⟩ = some (.func (.func 22) #[] #[]) := (hB.cell (p := ⟨W.heap.size + 1, 0, none⟩) (by show W.heap.size + 1 < _; omega)).trans (by simp [go_sem])
  have hcO : w1.cell? ⟨W.heap.size + 1 + 1 + 1, 0, none⟩ = some (.slice (some ⟨W.heap.size + 1 + 1, 0, none⟩) l.length l.length) := (hB.cell (p := ⟨W.heap.size + 1 + 1 + 1, 0, none⟩) (by show W.heap.size + 1 + 1 + 1 < _; omega)).trans (by simp [go_sem])
  have hown : w1.ownsRow W.heap.size 5 1 (.slice (some ⟨W.heap.size + 1 + 1, 0, none⟩) l.length l.length) l.length (nums .u8 (outr w cnt l [])) := by
    have h0 := own_made ((W.alloc (.cells #[.slice A l.length c] 22)).alloc (.cells #[.func (.func 22) #[] #[]] 38)) W.heap.size 5 .u8 l.length (by simp <;> omega) (by omega)
    simp only [World.size_alloc] at h0
    have h1 := (h0.alloc (.cells #[.slice (some ⟨W.heap.size + 1 + 1, 0, none⟩) l.length l.length] 22))
    rw [outr_nil, HWC.out]
    exact own_move h1 (fun k hk => hB.block k (by have := own_lt h1 k hk; simpa using this))
  have hBW : Below W.heap.size W w1 := (((((Below.refl _ W).alloc (Nat.le_refl _) _).alloc (by simp <;> omega) _).alloc (by simp <;> omega) _).alloc (by simp <;> omega) _).trans (hB.mono (by omega))
  have hlt6 := (Array.getElem?_eq_some_iff.1 hb).1
  have hK3 : ∀ (V : World) (p : Nat) (o o' : Obj), w1.heap.size ≤ p → V.heap[p]? = some o → o.isCells = false → o.isWalk = false → Keep3 (W.heap.size + 1 + 1 + 1 + 1) (W.heap.size + 1 + 1 + 1 + 1 + 1) (W.heap.size + 1 + 1 + 1 + 1 + 2) V (V.putObj p o') := fun V p o o' hp _ _ _ =>
    ⟨World.putObj_heap_other (by omega), World.putObj_heap_other (by omega), World.putObj_heap_other (by omega)⟩
  refine wpIn_rangeFunc_ownF rfl (by omega) (gf := 24) (lb := #[.pointer (some ⟨W.heap.size + 1 + 1 + 1 + 1, 0, none⟩), .pointer (some ⟨W.heap.size + 1 + 1 + 1 + 1 + 1, 0, none⟩), .pointer (some ⟨W.heap.size + 1 + 1 + 1 + 1 + 2, 0, none⟩)]) rfl trivial (enters_of Try.func24 (by kernel_rfl) rfl)
    (places_stops 5 (by omega) _ _ _ w cnt hw0 hw1 (by rw [HWC.out]; exact hpos) (by rw [HWC.out]; exact hlen) w1 c0 c1 hb (by omega) (by omega) (by omega)) Keep3.trans hK3 (Below.refl _ _) (fun _ => rfl)
    (fun pre V => ((V.cell? ⟨W.heap.size, 0, none⟩ = some (.slice A l.length c) ∧ V.cell? ⟨W.heap.size + 1, 0, none⟩ = some (.func (.func 22) #[] #[]) ∧ V.cell? ⟨W.heap.size + 1 + 1 + 1, 0, none⟩ = some (.slice (some ⟨W.heap.size + 1 + 1, 0, none⟩) l.length l.length)) ∧
      V.ownsRow W.heap.size 5 1 (.slice (some ⟨W.heap.size + 1 + 1, 0, none⟩) l.length l.length) l.length (nums .u8 (outr w cnt l pre))) ∧ Below W.heap.size W V)
    (fun _ _ _ => False)
    (OwnFrom.and (fun s X Y row hs hg hr => ⟨⟨cell_kept hs.1.1 hg (fun r e => (hr r e).2), cell_kept hs.1.2.1 hg (fun r e => (hr r e).2), cell_kept hs.1.2.2 hg (fun r e => (hr r e).2)⟩, own_move hs.2 (fun k hk => hg.block k (own_lt hs.2 k hk) (fun e => by
      have h1 := (hr k e.symm).1
      have h2 : W.heap.size + 1 + 1 = k := by simpa [Value.ownBlock] using hk
      omega))⟩) (ownFrom_below (Nat.le_refl _) (by omega)))
    (fun _ _ _ _ _ hs _ _ => hs)
    ⟨⟨⟨hcA, hcF, hcO⟩, hown⟩, hBW⟩
    (fun x : Nat => { tmps := #[.int .i64 w, .slice A l.length c, .func (.func 22) #[] #[], undef, .pointer (some ⟨W.heap.size, 0, none⟩), .pointer (some ⟨W.heap.size + 1, 0, none⟩), .slice none 0 0, .pointer (some ⟨W.heap.size + 1 + 1 + 1, 0, none⟩),
      .int .i64 ((x : Int) % ((w : Int) * (cnt : Int))), .int .i64 ((Go.Proofs.YtkpmjijhgmmjoaaP.place w cnt (x % (w * cnt)) : Nat) : Int), undef, undef, .slice A l.length c, .int .i64 l.length, .bool false, .slice A l.length c, .int .i64 l.length, .slice (some ⟨W.heap.size + 1 + 1, 0, none⟩) l.length l.length, .int .i64 w, .slice A l.length c, .int .i64 l.length, .int .i64 w, .int .i64 cnt,
      .func (.func 24) #[] #[.pointer (some ⟨W.heap.size + 1 + 1 + 1 + 1, 0, none⟩), .pointer (some ⟨W.heap.size + 1 + 1 + 1 + 1 + 1, 0, none⟩), .pointer (some ⟨W.heap.size + 1 + 1 + 1 + 1 + 2, 0, none⟩)],
      .int .i64 ((x : Int) % ((w : Int) * (cnt : Int))), .int .i64 ((Go.Proofs.YtkpmjijhgmmjoaaP.place w cnt (x % (w * cnt)) : Nat) : Int), undef, undef, undef, undef, undef, undef, undef, undef, undef, undef, undef, undef, undef, undef, undef], defers := [] }) ?assign ?body ?done ?stop
  case assign =>
    intro l' x V K hK
    gi_wp2
    exact hK
  case body =>
    rintro l' pre x V ⟨⟨⟨dA, dF, dO⟩, hownV⟩, hBV⟩ hlenx
    rw [HWC.out] at hlenx
    obtain ⟨y, hy⟩ : ∃ y : Nat, y = x % (w * cnt) := ⟨_, rfl⟩
    have hyN : y < w * cnt := by rw [hy]; exact Nat.mod_lt _ (by rw [HWC.out]; exact hpos)
    have hpN := Go.Proofs.YtkpmjijhgmmjoaaP.place_lt hyN
    have hyi : ((x : Int) % ((w : Int) * (cnt : Int))) = (y : Int) := by rw [hy]; simp
    rw [hyi, ← hy]
    have hsn := outr_snoc w cnt l pre x
    rw [← hy] at hsn
    obtain ⟨z, hz⟩ : ∃ z : Nat, z = Go.Proofs.YtkpmjijhgmmjoaaP.place w cnt y := ⟨_, rfl⟩
    rw [← hz] at hsn hpN ⊢
    rw [HWC.out] at hyN hpN
    obtain ⟨ad, rfl, hcell⟩ := Kd.at_int (Kd.C_below hr hBV) (z : Int) (by omega) (by omega)
    have hcell' : V.cell? (ad.add z) = some (.int .u8 (rd l z)) := by simpa using hcell
    have hoz := own_at hownV (y : Int) (by omega) (by omega)
    simp only [Int.toNat_natCast] at hoz
    obtain ⟨hoz, hfz⟩ := hoz
    have hst := own_store hownV (y : Int) (rd l z)
    simp only [Int.toNat_natCast] at hst
    have HSN := Lib.hid hsn
    have HST := Lib.hid hst
    clear hcell hyi hy hz hsn hst
    have hz1 : z < l.length := hpN
    gi_wp2
    refine ⟨trivial, ?_⟩
    refine (CallsIn.inRound l' (way_r _ _ _ _)).mono ?_
    rintro e w' ⟨rfl, rfl⟩
    have hX : w'.grownBy (w'.setCell ⟨W.heap.size + 1 + 1, y, none⟩ (.int .u8 (rd l z))) (some (W.heap.size + 1 + 1)) := HST.out.2
    have hfin : KeepsOthers w' (w'.setCell ⟨W.heap.size + 1 + 1, y, none⟩ (.int .u8 (rd l z))).drew ∧ Keep3 (W.heap.size + 1 + 1 + 1 + 1) (W.heap.size + 1 + 1 + 1 + 1 + 1) (W.heap.size + 1 + 1 + 1 + 1 + 2) w' (w'.setCell ⟨W.heap.size + 1 + 1, y, none⟩ (.int .u8 (rd l z))).drew ∧
        (((w'.setCell ⟨W.heap.size + 1 + 1, y, none⟩ (.int .u8 (rd l z))).drew.cell? ⟨W.heap.size, 0, none⟩ = some (.slice (some ad) l.length c) ∧ (w'.setCell ⟨W.heap.size + 1 + 1, y, none⟩ (.int .u8 (rd l z))).drew.cell? ⟨W.heap.size + 1, 0, none⟩ = some (.func (.func 22) #[] #[]) ∧ (w'.setCell ⟨W.heap.size + 1 + 1, y, none⟩ (.int .u8 (rd l z))).drew.cell? ⟨W.heap.size + 1 + 1 + 1, 0, none⟩ = some (.slice (some ⟨W.heap.size + 1 + 1, 0, none⟩) l.length l.length)) ∧
        (w'.setCell ⟨W.heap.size + 1 + 1, y, none⟩ (.int .u8 (rd l z))).drew.ownsRow W.heap.size 5 1 (.slice (some ⟨W.heap.size + 1 + 1, 0, none⟩) l.length l.length) l.length (nums .u8 (outr w cnt l (pre ++ [x])))) ∧ Below W.heap.size W (w'.setCell ⟨W.heap.size + 1 + 1, y, none⟩ (.int .u8 (rd l z))).drew := by
      have far : ∀ k, k ≠ W.heap.size + 1 + 1 → (w'.setCell ⟨W.heap.size + 1 + 1, y, none⟩ (.int .u8 (rd l z))).drew.heap[k]? = w'.heap[k]? := fun k hk => Below.heap_setCell w' ⟨W.heap.size + 1 + 1, y, none⟩ (.int .u8 (rd l z)) k hk
      refine ⟨(KeepsOthers.setCell _ _ _).trans ⟨Nat.le_refl _, fun k o hk _ => hk⟩, ⟨far _ (by omega), far _ (by omega), far _ (by omega)⟩, ⟨⟨?_, ?_, ?_⟩, ?_⟩, ?_⟩
      · exact (World.cell?_of_block (a := ⟨W.heap.size, 0, none⟩) (far _ (by show W.heap.size ≠ _; omega))).trans dA
      · exact (World.cell?_of_block (a := ⟨W.heap.size + 1, 0, none⟩) (far _ (by show W.heap.size + 1 ≠ _; omega))).trans dF
      · exact (World.cell?_of_block (a := ⟨W.heap.size + 1 + 1 + 1, 0, none⟩) (far _ (by show W.heap.size + 1 + 1 + 1 ≠ _; omega))).trans dO
      · rw [HSN.out]
        exact HST.out.1
      · exact (hBV.setCell (p := ⟨W.heap.size + 1 + 1, y, none⟩) (by show W.heap.size ≤ W.heap.size + 1 + 1; omega) _).drew
    have HFIN := Lib.hid hfin
    clear hfin hX
    gi_wp2
    gi_region
    all_goals exact HFIN.out
  case done =>
    rintro D ys V hD rfl ⟨⟨⟨dA, dF, dO⟩, hownV⟩, hBV⟩ hK
    rw [outr_range w cnt l HWC.out.symm (by omega) _ (Nat.le_refl _), HWC.out, Go.Proofs.YtkpmjijhgmmjoaaP.got_all w l HD.out] at hownV
    have hBD := hBV.trans (belowK_b (w := W) (Nat.le_refl _) V D _ (.deferred none) (by omega) hK rfl rfl)
    have hlt2 := own_lt hownV (W.heap.size + 1 + 1) (by simp [Value.ownBlock])
    have hRD : Kd.R (Kd.int .u8) 5 (V.putObj D (.deferred none)) W.heap.size (fun _ => True) (.slice (some ⟨W.heap.size + 1 + 1, 0, none⟩) l.length l.length) (Go.Proofs.YtkpmjijhgmmjoaaP.back w l) := by
      have ho := own_move (w1 := V.putObj D (.deferred none)) hownV (fun k hk => World.putObj_heap_other (by
        have h2 : W.heap.size + 1 + 1 = k := by simpa [Value.ownBlock] using hk
        omega))
      exact Kd.R_of_own (by rw [Go.Proofs.YtkpmjijhgmmjoaaP.back_len]; exact ho) (fun _ _ => trivial)
    clear hownV
    gi_wp2
    refine ⟨by simp, .inl ⟨_, _, rfl, run_takeDeferred hK, ?_⟩⟩
    refine ⟨_, results_tmp rfl _ _ _, ?_⟩
    exact ⟨_, rfl, hRD, hBD⟩
  case stop =>
    rintro D c pre V _ _ h _
    exact h.elim


end Go.Proofs.Ytkpmjijhgmmjoaa.H
