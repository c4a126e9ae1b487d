/- Texts of the claim, packed: H14, H20. -/
import Derived.Lib.Hide
import Derived.Lib.SliceRun
import Derived.WalkSpells
import Derived.Test.YtncehlbhjoejhaaZRangesParts4
import Derived.Test.YtncehlbhjoejhaaZRangesParts7
import Derived.Test.YtncehlbhjoejhaaZRangesParts8
section
-- Laid by this session's hprint.py, out of the kit's print.py and texts of the session. Not trusted: Lean checks it.
namespace Go.Proofs.Ytncehlbhjoejhaa.H
open Go.RowKit Go.Proofs.YtncehlbhjoejhaaW.PrintWords Go.Proofs.YtncehlbhjoejhaaW.PrintLast Go.Proofs.YtncehlbhjoejhaaW.PrintMore
attribute [local go_sem] max2_int min2_int max_two min_two max_three min_three max_four min_four   -- for this text's walks alone
set_option linter.unusedVariables false
set_option linter.unusedSimpArgs false

-- OVPART Derived.Lib.Hide Derived.WalkSpells Derived.Lib.SliceRun
/-! ### api_Datum_33: function 33 -/
theorem info_datum : (Try.prog.info? 29).map (fun i => (i.zero, i.size, i.bytes)) = some (some (.agg #[.int .i64 0, .int .i64 0, .string ⟨#[]⟩]), 3, 32) := by kernel_rfl
set_option maxRecDepth 100000 in
set_option maxHeartbeats 4000000 in
theorem clone_datum (A0 : Option Addr) (c0 : Nat) (l0 : List S29) (w : World) (hr0 : Kd.C k29 w A0 l0.length l0) (hc0 : l0.length ≤ c0) (hlen : l0.length ≤ 1000000) :
    Calls Try.prog 33 #[.slice A0 l0.length c0] w fun e w' => ∃ v, e = .returned v ∧ Kd.R k29 29 w' w.heap.size (fun _ => True) v l0 ∧ Below w.heap.size w w' := by
  cases A0 with
  | none =>
    have hl : l0.length = 0 := by
      rcases Nat.eq_zero_or_pos l0.length with h | h
      · exact h
      · obtain ⟨ad, e, _⟩ := at_T29 hr0 0 (by omega) (by omega)
        cases e
    obtain rfl := List.eq_nil_of_length_eq_zero hl
    have hnil := fun (w : World) (a : Option Addr) (n c : Nat) => Lib.run_eql_slice_nil (P := Try.prog) w 25 29 a n c 0 0 Try.underlying25
    go_enter Try.func33, Try.ntmps33
    go_wp2_with fail
    go_ret
    exact ⟨_, rfl, Kd.R_nil _ _ _ _ _, Below.refl _ _⟩
  | some ad =>
    have HR0 := Aside0.mk hr0
    clear hr0
    have HB := Aside0.mk (Below.refl w.heap.size w)
    have hnil := fun (w : World) (a : Option Addr) (n c : Nat) => Lib.run_eql_slice_nil (P := Try.prog) w 25 29 a n c 0 0 Try.underlying25
    go_enter Try.func33, Try.ntmps33
    go_wp2_with (first | ((with_reducible refine gate_dst (N := 5) rfl ?_); refine Kd.R_lit k29 _ 29 ?hg (N := 5) ?hd (xs := ([] : List S29)) (inner := []) (ok := fun _ => True) (okp := fun _ => True) ?hr ?hp (fun _ hk => hk) trivial (Below.refl _ _) (Nat.le_refl _) (by simp) ?_; (case hd => rfl); (case hg => rfl); (case hr => first | (go_simp; done) | (go_simp; rfl)); (case hp => exact (Reps.none _ _)); intro v181 w6 ho7 hb hg_ hnew_; clear hg_ hnew_; have HO182 := Aside0.mk (Kd.R_lower ho7 (below_size HB.out)); have HB2 := Aside0.mk (below_step HB.out hb); clear HB; have HB := HB2; clear HB2; clear hb ho7) | ((with_reducible refine gate_builtin (b := .append) (xs := #[.tmp 5, .tmp 6]) rfl ?_); at_builtin; refine Kd.R_append_rows k29 (w0 := w) w.heap.size rfl (.tmp 5) (.tmp 6) 25 29 (.agg #[.int .i64 0, .int .i64 0, .string ⟨#[]⟩]) 32 rfl Try.underlying25 info_datum rfl (by decide) (by omega) v181 [] l0 _ _ _ (fun _ => True) (fun _ => False) rfl rfl ?aO ?aR (fun _ _ h => h) (fun _ h => h.elim) ?aF ?aB ?aS ?aL ?_; (case aR => exact (Kd.C_below HR0.out HB.out)); (case aB => exact HB.out); (case aF => exact (fun _ _ => trivial)); (case aO => exact HO182.out); (case aS => exact (below_size HB.out)); (case aL => simp only [List.length_nil]; omega); intro v184 w8 ho hb hg hat; rw [List.nil_append] at ho; have HB2 := Aside0.mk hb; have HO185 := Aside0.mk ho; clear HB; clear HO182; have HB := HB2; clear HB2; clear ho hb hg hat))
    go_ret
    exact ⟨_, rfl, HO185.out, HB.out⟩


end Go.Proofs.Ytncehlbhjoejhaa.H
end
section
-- Laid by this session's hprint.py, out of the kit's print.py and texts of the session. Not trusted: Lean checks it.
namespace Go.Proofs.Ytncehlbhjoejhaa.H
open Go.RowKit Go.Proofs.YtncehlbhjoejhaaW.PrintWords Go.Proofs.YtncehlbhjoejhaaW.PrintLast Go.Proofs.YtncehlbhjoejhaaW.PrintMore
attribute [local go_sem] max2_int min2_int max_two min_two max_three min_three max_four min_four   -- for this text's walks alone
set_option linter.unusedVariables false
set_option linter.unusedSimpArgs false

-- OVPART Derived.Lib.Hide
/-! ### api_Datum_38: function 38 -/
/-- A function value that compares two of some data. -/
structure TellsTwo (g : Nat) (lb : Array Value) (l : List S29) (p : S29 → S29 → Bool) (w : World) : Prop where
  calls : ∀ x y, x ∈ l → y ∈ l → ∀ W, Below w.heap.size w W → Calls Try.prog g (#[aggD x, aggD y] ++ lb) W fun e W' => e = .returned (.bool (p x y)) ∧ Below W.heap.size W W'
def bestL (p : S29 → S29 → Bool) (b : S29) (l : List S29) : S29 := l.foldl (fun out x => if p x out then x else out) b
theorem bestL_mem (p : S29 → S29 → Bool) (l : List S29) : ∀ b, bestL p b l = b ∨ bestL p b l ∈ l := by
  induction l with
  | nil => intro b; exact .inl rfl
  | cons x xs ih =>
    intro b
    rcases ih (if p x b then x else b) with h | h
    · have e : bestL p b (x :: xs) = bestL p (if p x b then x else b) xs := rfl
      rw [e, h]
      by_cases hb : p x b = true
      · rw [if_pos hb]; exact .inr (List.mem_cons_self)
      · rw [if_neg hb]; exact .inl rfl
    · exact .inr (List.mem_cons_of_mem _ h)
theorem bestL_next (p : S29 → S29 → Bool) (b : S29) (l : List S29) (k : Nat) (h : k < l.length) : bestL p b (l.take (k + 1)) = if p (rd_T29 l (k : Int)) (bestL p b (l.take k)) then rd_T29 l (k : Int) else bestL p b (l.take k) := by
  have hrd : rd_T29 l (k : Int) = l[k] := by unfold rd_T29; rw [Int.toNat_natCast, List.getD_eq_getElem?_getD, List.getElem?_eq_getElem h]; rfl
  unfold bestL
  rw [List.take_succ_eq_append_getElem h, List.foldl_append, hrd]
  rfl
abbrev cellsD (x : S29) : Obj := .cells #[.int .i64 x.f0, .int .i64 x.f1, .string x.f2] 29
theorem put3 {W : World} {b : Nat} {T : TypeId} {a0 a1 a2 : Value} (h : W.heap[b]? = some (.cells #[a0, a1, a2] T (0, 0))) (x y z : Value) : (((W.setCell ⟨b, 0, none⟩ x).setCell ⟨b, 1, none⟩ y).setCell ⟨b, 2, none⟩ z).heap[b]? = some (.cells #[x, y, z] T (0, 0)) := blk_put (blk_put (blk_put h 0 x rfl) 1 y rfl) 2 z rfl
set_option maxHeartbeats 4000000 in
set_option maxRecDepth 100000 in
theorem best_func (g : Nat) (gn : Func) (hf : Try.prog.funcs[g]? = some gn) (hname : (gn.name == "runtime.NumGoroutine") = false) (hbody : gn.body.isSome = true) (lb : Array Value) (A0 : Option Addr) (c0 : Nat) (x0 : S29) (l0 : List S29) (p : S29 → S29 → Bool) (w : World) (hr0 : Kd.C k29 w A0 (l0.length + 1) (x0 :: l0)) (hc0 : l0.length + 1 ≤ c0) (hg : TellsTwo g lb (x0 :: l0) p w) (hlen : l0.length ≤ 1000000000) :
    Calls Try.prog 38 #[.slice A0 ((l0.length + 1 : Nat)) c0, .func (.func g) #[] lb] w fun e w' => e = .returned (aggD (bestL p x0 l0)) ∧ Below w.heap.size w w' := by
  obtain ⟨ad0, e0, hx0, hx1, hx2⟩ := at_T29 hr0 0 (by omega) (by omega)
  cases e0
  have hD := Kd.C_drop (c := c0) (m := 1) hr0 (by simp) hc0
  rw [List.drop_succ_cons, List.drop_zero] at hD
  obtain ⟨A1, hA1⟩ : ∃ A1, A1 = (if c0 = 1 then some ad0 else (some ad0).map (·.add (1 * 3))) := ⟨_, rfl⟩
  have hD1 : Kd.C k29 w A1 l0.length l0 := by rw [hA1]; exact hD
  have hsl : ∀ W, (Instr.slice 25 (.slice (some ad0) (l0.length + 1) c0) (some (.int .i64 1)) none none).run Try.prog W = .ok (.slice A1 l0.length (c0 - 1)) W := by
    intro W
    obtain ⟨i0, hi, _, hz1, _⟩ := info_parts info_datum
    have hel : Try.prog.elem 25 = 29 := by simp [Program.elem, Try.underlying25]
    have hu : Try.prog.underlying 25 = some (.slice (Try.prog.elem 25)) := by rw [hel]; exact Try.underlying25
    rw [run_slice_l W 25 (some ad0) (l0.length + 1) c0 hu .i64 1 (by omega) (by omega), hel, hA1]
    simp [sizeOf, typeInfo, hi, sliced, Result.andThen, hz1]
  have hyA : ∀ o, (w.alloc o).cell? ad0 = some (.int .i64 x0.f0) ∧ (w.alloc o).cell? ⟨ad0.block, ad0.off + 1, none⟩ = some (.int .i64 x0.f1) ∧ (w.alloc o).cell? ⟨ad0.block, ad0.off + 2, none⟩ = some (.string x0.f2) := fun o => by
    obtain ⟨ad, e, q0, q1, q2⟩ := at_T29 (Kd.C_below hr0 (below_alloc (Below.refl _ _) o)) 0 (by omega) (by omega)
    cases e
    have e0 : ad0.add ((0 : Int).toNat * 3) = ad0 := by show ad0.add 0 = ad0; simp [Addr.add]
    rw [e0] at q0 q1 q2
    exact ⟨q0, q1, q2⟩
  have hz0 := fun o => (hyA o).1
  have hz1 := fun o => (hyA o).2.1
  have hz2 := fun o => (hyA o).2.2
  clear hD hA1 hr0 hyA hx0 hx1 hx2
  go_enter Try.func38, Try.ntmps38
  go_wp2_with fail
  have k4 : ((w.alloc (cellsD z29)).alloc (cellsD x0)).heap[w.heap.size]? = some (.cells #[.int .i64 0, .int .i64 0, .string ⟨#[]⟩] 29 (0, 0)) := blk_alloc (blk_new w _) _
  have k5 : ((w.alloc (cellsD z29)).alloc (cellsD x0)).heap[w.heap.size + 1]? = some (.cells #[.int .i64 x0.f0, .int .i64 x0.f1, .string x0.f2] 29 (0, 0)) := by
    have h := blk_new (w.alloc (cellsD z29)) (cellsD x0)
    rw [World.size_alloc] at h
    exact h
  have kB : Below w.heap.size w ((w.alloc (cellsD z29)).alloc (cellsD x0)) := below_alloc (below_alloc (Below.refl _ _) _) _
  go_loopw [14] (fun v wr => ∃ k : Nat, k ≤ l0.length ∧ v = .int .i64 k ∧ wr.heap[w.heap.size]? = some (.cells #[.int .i64 0, .int .i64 0, .string ⟨#[]⟩] 29 (0, 0)) ∧ wr.heap[w.heap.size + 1]? = some (.cells #[.int .i64 (bestL p x0 (l0.take k)).f0, .int .i64 (bestL p x0 (l0.take k)).f1, .string (bestL p x0 (l0.take k)).f2] 29 (0, 0)) ∧ Below w.heap.size w wr) (fun v _ => l0.length - (intOf v).toNat)
  case atStart => exact ⟨0, Nat.zero_le _, rfl, k4, k5, kB⟩
  case round =>
    obtain ⟨k, hk, rfl, h4, h5, hB⟩ := hrel
    clear k4 k5 kB hz0 hz1 hz2
    by_cases hlt : k < l0.length
    · obtain ⟨ad1, e1, hy0, hy1, hy2⟩ := at_T29 (Kd.C_below hD1 hB) (k : Int) (by omega) (by omega)
      subst e1
      simp only [Int.toNat_natCast] at hy0 hy1 hy2
      have hnx := bestL_next p x0 l0 k hlt
      have hbm := bestL_mem p (l0.take k) x0
      have hxm := rdD_mem l0 k hlt
      obtain ⟨x, hx⟩ : ∃ x, x = rd_T29 l0 (k : Int) := ⟨_, rfl⟩
      obtain ⟨b, hb⟩ : ∃ b, b = bestL p x0 (l0.take k) := ⟨_, rfl⟩
      rw [← hx] at hy0 hy1 hy2 hnx hxm
      rw [← hb] at h5 hnx hbm
      have hbm' : b ∈ x0 :: l0 := by
        rcases hbm with h | h
        · rw [h]; exact List.mem_cons_self
        · exact List.mem_cons_of_mem _ (List.mem_of_mem_take h)
      have hcl := fun W hW => hg.calls x b (List.mem_cons_of_mem _ hxm) hbm' W hW
      obtain ⟨t, ht⟩ : ∃ t, t = p x b := ⟨_, rfl⟩
      rw [← ht] at hcl hnx
      have h50 : ∀ o, (wr.alloc o).cell? ⟨w.heap.size + 1, 0, none⟩ = some (.int .i64 b.f0) := fun o => by rw [blk_cell (blk_alloc h5 o)]; rfl
      have h51 : ∀ o, (wr.alloc o).cell? ⟨w.heap.size + 1, 1, none⟩ = some (.int .i64 b.f1) := fun o => by rw [blk_cell (blk_alloc h5 o)]; rfl
      have h52 : ∀ o, (wr.alloc o).cell? ⟨w.heap.size + 1, 2, none⟩ = some (.string b.f2) := fun o => by rw [blk_cell (blk_alloc h5 o)]; rfl
      have HCL := Lib.hid hcl
      have HNX := Lib.hid hnx
      have H4 := Lib.hid h4
      have H5 := Lib.hid h5
      have hlt4 := blk_lt h4
      have hlt5 := blk_lt h5
      clear hcl hnx hbm hbm' hx hb ht hxm h4 h5
      cases t
      all_goals
        go_wp2_with (first | ((with_reducible refine gate_dst (N := 21) rfl ?_); (refine goesC_ (some 21) rfl rfl hf hname hbody lb #[aggD x, aggD b] rfl rfl (by (try simp only [List.map_toArray, List.map_cons, List.map_nil]); first | done | rfl) ?_; refine (HCL.out _ (below_alloc hB _)).mono ?_; rintro e w2 ⟨rfl, hb2⟩; have hbw := below_step (below_alloc (Below.refl wr.heap.size wr) _) hb2; have hn := new3 hb2; obtain ⟨hn0, hn1, hn2⟩ := hn; have j5 := blk_below H5.out hbw; have j4 := blk_below H4.out hbw; have q50 := blk_cell j5 0; have q51 := blk_cell j5 1; have q52 := blk_cell j5 2; have f50 := blk_frozen j5 0; have f51 := blk_frozen j5 1; have f52 := blk_frozen j5 2; have J5 := Lib.hid j5; have J4 := Lib.hid j4; clear j4 j5; refine ⟨_, rfl, ?_⟩)))
      · go_roundw
        case rel =>
          have hb' := HNX.out
          simp only [Bool.false_eq_true, if_false] at hb'
          exact ⟨k + 1, by omega, by go_num, J4.out, by rw [hb']; exact J5.out, below_step hB hbw⟩
        case measure => simp [intOf]; omega
      · go_roundw
        case rel =>
          have hb' := HNX.out
          simp only [if_true] at hb'
          refine ⟨k + 1, by omega, by go_num, ?_, by rw [hb']; exact put3 J5.out _ _ _, ?_⟩
          · exact blk_far (blk_far (blk_far J4.out (p := ⟨w.heap.size + 1, 0, none⟩) (by show w.heap.size ≠ w.heap.size + 1; omega) _) (p := ⟨w.heap.size + 1, 1, none⟩) (by show w.heap.size ≠ w.heap.size + 1; omega) _) (p := ⟨w.heap.size + 1, 2, none⟩) (by show w.heap.size ≠ w.heap.size + 1; omega) _
          · exact (((below_step hB hbw).setCell (p := ⟨w.heap.size + 1, 0, none⟩) (Nat.le_succ _) _).setCell (p := ⟨w.heap.size + 1, 1, none⟩) (Nat.le_succ _) _).setCell (p := ⟨w.heap.size + 1, 2, none⟩) (Nat.le_succ _) _
        case measure => simp [intOf]; omega
    · have hke : k = l0.length := by omega
      subst hke
      have q40 := blk_cell h4 0
      have q41 := blk_cell h4 1
      have q42 := blk_cell h4 2
      have f40 := blk_frozen h4 0
      have f41 := blk_frozen h4 1
      have f42 := blk_frozen h4 2
      have q50 := blk_cell h5 0
      have q51 := blk_cell h5 1
      have q52 := blk_cell h5 2
      have H4 := Lib.hid h4
      have HB := Lib.hid hB
      have ht : l0.take l0.length = l0 := List.take_length
      rw [ht] at q50 q51 q52
      clear h4 h5 hB ht
      go_wp2_with fail
      refine bodyPost_ret (results_cell_row rfl _ _ w.heap.size 29 #[.int .i64 (bestL p x0 l0).f0, .int .i64 (bestL p x0 l0).f1, .string (bestL p x0 l0).f2] (0, 0) _ rfl (put3 H4.out _ _ _) Try.underlying29 rfl (by kernel_rfl)) rfl ?_
      exact ⟨rfl, ((HB.out.setCell (p := ⟨w.heap.size, 0, none⟩) (Nat.le_refl _) _).setCell (p := ⟨w.heap.size, 1, none⟩) (Nat.le_refl _) _).setCell (p := ⟨w.heap.size, 2, none⟩) (Nat.le_refl _) _⟩


end Go.Proofs.Ytncehlbhjoejhaa.H
end
