/- Texts of the claim, packed: H65, H52. -/
import Derived.BigRegion
import Derived.Deep.Cut
import Derived.Deep.RegionHeld3
import Derived.Deep.RegionWith
import Derived.Lib.Hide
import Derived.Test.YtncehlbhjoejhaaZRangesOf4
import Derived.Test.YtncehlbhjoejhaaZRangesOf17
import Derived.Test.YtncehlbhjoejhaaZRangesOf18
import Derived.Test.YtncehlbhjoejhaaZRangesOf19
import Derived.Test.YtncehlbhjoejhaaZRangesOf22
import Derived.Test.YtncehlbhjoejhaaZRangesOf23
section
-- Laid by this session's hprint.py, out of the kit's print.py and texts of the session. Not trusted: Lean checks it.
namespace Go.Proofs.Ytncehlbhjoejhaa.H
open Go.RowKit Go.Proofs.YtncehlbhjoejhaaW.PrintWords Go.Proofs.YtncehlbhjoejhaaW.PrintLast Go.Proofs.YtncehlbhjoejhaaW.PrintMore
attribute [local go_sem] max2_int min2_int max_two min_two max_three min_three max_four min_four   -- for this text's walks alone
set_option linter.unusedVariables false
set_option linter.unusedSimpArgs false

-- OVPART Derived.Lib.Hide Derived.Deep.RegionHeld3 Derived.BigRegion Derived.Deep.RegionWith Derived.Deep.Cut
/-! ### marquetrylaw22_RangesOf: function 3 -/
def marquetrylaw22_RangesOf.g (k : Nat) (t0 t1 : Int) (l : List S29) (nulls : Int) : Option Bool :=
  (ranges_Of.f t0 t1 l nulls).bind fun s => (marquetryref22_Of.f k t0 t1 l nulls).bind fun r => (marquetryref09_SameAll.f k l l).bind fun q => if s.1 = r.1 ∧ s.2.1 = r.2.1 ∧ s.2.2.1 = r.2.2.1 ∧ s.2.2.2 = r.2.2.2 ∧ q = true then some true else none
def marquetrylaw22_RangesOf.f (k : Nat) (t0 t1 : Int) (l : List S29) (nulls : Int) : Option Bool :=
  if l.length > 100 then some true else (marquetrylaw22_bytes.f k l).bind fun n => if n > 10000 then some true else marquetrylaw22_RangesOf.g k t0 t1 l nulls
theorem cut_cap3 (t e : TypeId) (kh : IntKind) {P : Program} {i : TypeInfo} (ht : P.underlying t = some (.slice e)) (hi : P.info? e = some i) (A : Option Addr) (n c : Nat) (j : Int) (h0 : 0 ≤ j) (hm : j ≤ c) :
    ∀ W : World, (Instr.slice t (.slice A n c) none (some (.int kh j)) none).run P W = .ok (.slice A j.toNat c) W := by
  intro W
  have hel : P.elem t = e := by simp [Program.elem, ht]
  have hu : P.underlying t = some (.slice (P.elem t)) := by rw [hel]; exact ht
  have ha : (A.map fun x => x.add 0) = A := by cases A <;> simp [Addr.add]
  rw [run_slice_h W t A n c hu kh j h0 hm, hel]
  simp [sizeOf, typeInfo, hi, sliced, Result.andThen, ha]
structure RkO (w W : World) (B8 g c : Nat) (A1 : Option Addr) (l1 : List S29) (t0 t1 s1 : Int) (s2 : Bool) (s3 s4 : ByteArray) : Prop where
  b0 : W.heap[w.heap.size]? = some (.cells #[.int .i64 t0, .int .i64 t1] 24 (0, 0))
  b8 : W.heap[B8]? = some (.cells #[.int .i64 s1, .bool s2, .string s3, .string s4] 31 (0, 0))
  c1 : Kd.C k29 W A1 l1.length l1
  cf : Kd.C k29 W (some ⟨g, 0, none⟩) (l1 ++ [(⟨77, 0, ⟨#[]⟩⟩ : S29)]).length (l1 ++ [(⟨77, 0, ⟨#[]⟩⟩ : S29)])
  below : Below w.heap.size w W
theorem RkO.next {w W W' : World} {B8 g c : Nat} {A1 : Option Addr} {l1 : List S29} {t0 t1 s1 : Int} {s2 : Bool} {s3 s4 : ByteArray} (h : RkO w W B8 g c A1 l1 t0 t1 s1 s2 s3 s4) (hb : Below W.heap.size W W') : RkO w W' B8 g c A1 l1 t0 t1 s1 s2 s3 s4 := ⟨blk_below h.b0 hb, blk_below h.b8 hb, Kd.C_below h.c1 hb, Kd.C_below h.cf hb, below_step h.below hb⟩
theorem RkO.drew {w W : World} {B8 g c : Nat} {A1 : Option Addr} {l1 : List S29} {t0 t1 s1 : Int} {s2 : Bool} {s3 s4 : ByteArray} (h : RkO w W B8 g c A1 l1 t0 t1 s1 s2 s3 s4) : RkO w W.drew B8 g c A1 l1 t0 t1 s1 s2 s3 s4 := ⟨h.b0, h.b8, Kd.C_drew h.c1, Kd.C_drew h.cf, h.below.drew⟩
theorem RkO.cm {w W : World} {B8 g c : Nat} {A1 : Option Addr} {l1 : List S29} {t0 t1 s1 : Int} {s2 : Bool} {s3 s4 : ByteArray} (h : RkO w W B8 g c A1 l1 t0 t1 s1 s2 s3 s4) : Kd.C k29 W (some ⟨g, 0, none⟩) l1.length l1 := by
  have ht := Kd.C_take (m := l1.length) h.cf (by simp)
  rw [List.take_left] at ht
  exact ht
theorem RkO.held {w W : World} {B8 g c : Nat} {A1 : Option Addr} {l1 : List S29} {t0 t1 s1 : Int} {s2 : Bool} {s3 s4 : ByteArray} (h : RkO w W B8 g c A1 l1 t0 t1 s1 s2 s3 s4) :
    (W.cell? ⟨w.heap.size, 0, none⟩ = some (.int .i64 t0) ∧ W.cell? ⟨w.heap.size, 1, none⟩ = some (.int .i64 t1)) ∧ (W.cell? ⟨B8, 0, none⟩ = some (.int .i64 s1) ∧ W.cell? ⟨B8, 1, none⟩ = some (.bool s2) ∧ W.cell? ⟨B8, 2, none⟩ = some (.string s3) ∧ W.cell? ⟨B8, 3, none⟩ = some (.string s4)) ∧ W.cell? ⟨g, l1.length * 3, none⟩ = some (.int .i64 77) := by
  refine ⟨⟨blk_cell h.b0 0, blk_cell h.b0 1⟩, ⟨blk_cell h.b8 0, blk_cell h.b8 1, blk_cell h.b8 2, blk_cell h.b8 3⟩, ?_⟩
  obtain ⟨ad, had, hc, _, _⟩ := at_T29 h.cf (l1.length : Int) (by omega) (by simp; omega)
  cases had
  have hrd : rd_T29 (l1 ++ [(⟨77, 0, ⟨#[]⟩⟩ : S29)]) (l1.length : Int) = ⟨77, 0, ⟨#[]⟩⟩ := by
    unfold rd_T29
    simp
  rw [hrd, Int.toNat_natCast] at hc
  rw [← add_plain]
  exact hc
attribute [local go_sem high] eqA31
set_option maxHeartbeats 8000000 in
set_option maxRecDepth 100000 in
theorem marquetrylaw22_RangesOf.calls (k : Nat) (a0_0 : Int) (a0_1 : Int) (A1 : Option Addr) (c1 : Nat) (l1 : List (S29)) (a2 : Int) (r : Bool) (w : World) (hr1 : Kd.C k29 w A1 l1.length l1) (hc1 : l1.length ≤ c1) (h : marquetrylaw22_RangesOf.f k a0_0 a0_1 l1 a2 = some r) :
    Calls Try.prog 3 #[.agg #[.int .i64 a0_0, .int .i64 a0_1], .slice A1 l1.length c1, .int .i64 a2] w fun e w' => e = .returned (.bool r) ∧ Below w.heap.size w w' := by
  unfold marquetrylaw22_RangesOf.f at h
  have hlm := Kd.C_max hr1
  have hB0 : Below w.heap.size w (w.alloc (.cells #[.int .i64 a0_0, .int .i64 a0_1] 24)) := below_alloc (Below.refl _ _) _
  by_cases hlen : l1.length > 100
  · rw [if_pos hlen] at h
    obtain rfl := Option.some.inj h
    have hlb : decide ((l1.length : Int) > 100) = true := decide_eq_true (by omega)
    clear hlen
    go_enter Try.func3, Try.ntmps3
    go_wp2_with fail
    refine (marquetrylaw22_works.calls true _ rfl).mono ?_
    rintro e w1 ⟨rfl, hB1⟩
    have hb := below_step hB0 hB1
    go_wp2_with fail
    go_ret
    exact ⟨rfl, hb⟩
  rw [if_neg hlen] at h
  have hlb : decide ((l1.length : Int) > 100) = false := decide_eq_false (by omega)
  obtain ⟨n, hn, h1⟩ := Option.bind_eq_some_iff.mp h
  clear h
  have HN := Lib.hid hn
  clear hn
  have hlen2 : l1.length ≤ 100 := by omega
  have HL := Lib.hid hlen2
  clear hlen hlen2
  by_cases hbig : n > 10000
  · rw [if_pos hbig] at h1
    obtain rfl := Option.some.inj h1
    have hnb : decide (n > 10000) = true := decide_eq_true hbig
    clear hbig
    go_enter Try.func3, Try.ntmps3
    go_wp2_with fail
    refine (marquetrylaw22_bytes.calls k A1 c1 l1 n _ (Kd.C_alloc hr1 _) hc1 HN.out).mono ?_
    rintro e w1 ⟨rfl, hD1⟩
    have hb1 := below_step hB0 hD1.below
    go_wp2_with fail
    refine (marquetrylaw22_works.calls true _ rfl).mono ?_
    rintro e w2 ⟨rfl, hB2⟩
    have hb := below_step hb1 hB2
    go_wp2_with fail
    go_ret
    exact ⟨rfl, hb⟩
  rw [if_neg hbig] at h1
  have hnb : decide (n > 10000) = false := decide_eq_false hbig
  clear hbig
  unfold marquetrylaw22_RangesOf.g at h1
  obtain ⟨⟨s1, s2, s3, s4⟩, hs, h2⟩ := Option.bind_eq_some_iff.mp h1
  clear h1
  obtain ⟨⟨r1, r2, r3, r4⟩, ht, h3⟩ := Option.bind_eq_some_iff.mp h2
  clear h2
  obtain ⟨q, hq, h4⟩ := Option.bind_eq_some_iff.mp h3
  clear h3
  simp only at h4
  split at h4
  case isFalse => cases h4
  case isTrue hsame =>
  obtain ⟨rfl, rfl, rfl, rfl, rfl⟩ := hsame
  obtain rfl := Option.some.inj h4
  clear h4
  have HS := Lib.hid hs
  have HT := Lib.hid ht
  have HQ := Lib.hid hq
  clear hs ht hq
  have BK0 := Aside0.mk (blk_new w (.cells #[.int .i64 a0_0, .int .i64 a0_1] 24))
  go_enter Try.func3, Try.ntmps3
  go_wp2_with fail
  refine (marquetrylaw22_bytes.calls k A1 c1 l1 n _ (Kd.C_alloc hr1 _) hc1 HN.out).mono ?_
  rintro e w1 ⟨rfl, hD1⟩
  have HB := Aside0.mk (below_step hB0 hD1.below)
  have BK1 := Aside0.mk (blk_below BK0.out hD1.below)
  clear BK0
  have BK0 := BK1
  clear BK1 hD1 hB0
  have hl100 := HL.out
  go_wp2_with (first | ((with_reducible refine gate_dst (N := 18) rfl ?_); refine Kd.R_lit k29 _ 29 ?hg (N := 18) ?hd (xs := ([] : List S29)) (inner := []) (ok := fun _ => True) (okp := fun _ => True) ?hr ?hp (fun _ hk => hk) trivial (Below.refl _ _) (Nat.le_refl _) (by simp) ?_; (case hd => rfl); (case hg => rfl); (case hr => first | (go_simp; done) | (go_simp; rfl)); (case hp => exact (Reps.none _ _)); intro v181 w6 ho7 hb hg_ hnew_; clear hg_ hnew_; have BK2 := Aside0.mk (blk_below BK0.out hb); have HO1 := Aside0.mk (Kd.R_lower ho7 (below_size HB.out)); have HB2 := Aside0.mk (below_step HB.out hb); clear HB BK0; have HB := HB2; have BK0 := BK2; clear HB2 BK2 hb ho7) | ((with_reducible refine gate_builtin (b := .append) (xs := #[.tmp 18, .tmp 19]) rfl ?_); at_builtin; refine Kd.R_append_rows k29 (w0 := w) w.heap.size rfl (.tmp 18) (.tmp 19) 25 29 (.agg #[(.int .i64 0), (.int .i64 0), (.string ⟨#[]⟩)]) 32 rfl Try.underlying25 info29 rfl (by decide) (by omega) v181 ([] : List S29) l1 _ _ _ (fun _ => True) (fun _ => False) rfl rfl ?aO ?aR (fun _ _ h => h) (fun _ h => h.elim) ?aF ?aB ?aS ?aL ?_; (case aR => exact (Kd.C_below hr1 HB.out)); (case aB => exact HB.out); (case aF => exact (fun _ _ => trivial)); (case aO => exact HO1.out); (case aS => exact (below_size HB.out)); (case aL => simp only [List.length_nil]; omega); intro v184 w8 ho hb hg hat; rw [List.nil_append] at ho; have BK2 := Aside0.mk (blk_grown BK0.out hg (Kd.R_ne HO1.out BK0.out (by decide))); have HB2 := Aside0.mk hb; have HO2 := Aside0.mk ho; clear HB; clear HO1 BK0; have HB := HB2; have BK0 := BK2; clear HB2 BK2; clear ho hb hg hat) | ((with_reducible refine gate_builtin (b := .append) (xs := #[.tmp 20, .tmp 22]) rfl ?_); at_builtin; refine Kd.R_append k29 (w0 := w) w.heap.size rfl (.tmp 20) (.tmp 22) 25 29 (.agg #[(.int .i64 0), (.int .i64 0), (.string ⟨#[]⟩)]) 32 rfl Try.underlying25 info29 rfl (by decide) (by omega) v184 l1 (⟨77, 0, ⟨#[]⟩⟩ : S29) [.int .i64 77, .int .i64 0, .string ⟨#[]⟩] (fun _ => True) (fun _ => False) rfl rfl ?aP (fun _ hk => hk.elim) ?aF ?aO ?aB ?aS ?aL ?_; (case aP => exact (k29_mkM _ _ _ (⟨77, 0, ⟨#[]⟩⟩ : S29))); (case aB => exact HB.out); (case aF => exact (fun _ _ => trivial)); (case aO => exact HO2.out); (case aS => exact (below_size HB.out)); (case aL => omega); intro v187 w9 ho hb hg hat; have BK2 := Aside0.mk (blk_grown BK0.out hg (Kd.R_ne HO2.out BK0.out (by decide))); have HB2 := Aside0.mk hb; have HO3 := Aside0.mk ho; clear HB; clear HO2 BK0; have HB := HB2; have BK0 := BK2; clear HB2 BK2; clear ho hb hg hat; obtain ⟨g, c, eo10, hx10⟩ : ∃ g c, v187 = .slice (some ⟨g, 0, none⟩) (l1 ++ [(⟨77, 0, ⟨#[]⟩⟩ : S29)]).length c ∧ (l1 ++ [(⟨77, 0, ⟨#[]⟩⟩ : S29)]).length ≤ c := by { obtain ⟨inner, hown⟩ := Kd.R_own HO3.out; obtain ⟨g, c, e, _⟩ := World.ownsRow.form hown (by simp); subst e; exact ⟨g, c, rfl, (Kd.R_reads' HO3.out).2.1⟩ }; subst eo10; obtain ⟨i011, hi011, _, hsz11, _⟩ := info_parts info29; have hcut11 := cut_cap3 (P := Try.prog) 25 29 .i64 Try.underlying25 hi011 (some ⟨g, 0, none⟩) (l1 ++ [(⟨77, 0, ⟨#[]⟩⟩ : S29)]).length c (l1.length : Int) (by omega) (by simp at hx10; omega); rw [Int.toNat_natCast] at hcut11; have hle1 : l1.length ≤ c := (by simp at hx10; omega); have hle2 : (l1.length : Int) ≤ (c : Int) := (by omega); have hc0 : w9.cell? ⟨w.heap.size, 0, none⟩ = some (.int .i64 a0_0) := (blk_cell BK0.out 0).trans rfl; have hc1' : w9.cell? ⟨w.heap.size, 1, none⟩ = some (.int .i64 a0_1) := (blk_cell BK0.out 1).trans rfl))
  have hC9 := (Kd.R_reads' HO3.out).2.2
  have hl9 := Kd.C_below hr1 HB.out
  have hm9 := Kd.C_take (m := l1.length) hC9 (by simp)
  rw [List.take_left] at hm9
  clear HO3
  refine (ranges_Of.calls a0_0 a0_1 (some ⟨g, 0, none⟩) c l1 a2 s1 s2 s3 s4 _ hm9 (by omega) HS.out).mono ?_
  rintro e w4 ⟨rfl, hB4⟩
  have h5 : RkO w (w4.alloc (.cells #[.int .i64 s1, .bool s2, .string s3, .string s4] 31)) w4.heap.size g c A1 l1 a0_0 a0_1 s1 s2 s3 s4 := ⟨blk_alloc (blk_below BK0.out hB4) _, blk_new w4 _, Kd.C_alloc (Kd.C_below hl9 hB4) _, Kd.C_alloc (Kd.C_below hC9 hB4) _, below_alloc (below_step HB.out hB4) _⟩
  clear hC9 hl9 hm9 hc0 hc1' hB4 BK0 HB
  go_upto_region 5 with (fail)
  generalize hW5 : w4.alloc (.cells #[.int .i64 s1, .bool s2, .string s3, .string s4] 31) = w5 at *
  generalize hB8 : w4.heap.size = B8 at *
  clear hW5 hB8
  obtain ⟨i0, hi, _, _, _⟩ := info_parts info29
  have hcut := cut_cap3 (P := Try.prog) 25 29 .i64 Try.underlying25 hi (some ⟨g, 0, none⟩) l1.length c ((l1.length : Int) + 1) (by omega) (by simp at hx10; omega)
  rw [show ((l1.length : Int) + 1).toNat = l1.length + 1 by omega] at hcut
  have hwr : IntKind.i64.wrap ((l1.length : Int) + 1) = (l1.length : Int) + 1 := by rw [IntKind.wrap_i64]; omega
  have hn1 : ((l1.length : Int) + 1).toNat = l1.length + 1 := by omega
  have hb1 : (0 : Int) ≤ (l1.length : Int) + 1 := by omega
  have hb3 : (l1.length : Int) < (l1.length : Int) + 1 := by omega
  have hb2 : (l1.length : Int) + 1 ≤ (c : Int) := by simp at hx10; omega
  refine wp_region_held_drew (S := (fun W => (W.cell? ⟨w.heap.size, 0, none⟩ = some (.int .i64 a0_0) ∧ W.cell? ⟨w.heap.size, 1, none⟩ = some (.int .i64 a0_1)) ∧ (W.cell? ⟨B8, 0, none⟩ = some (.int .i64 s1) ∧ W.cell? ⟨B8, 1, none⟩ = some (.bool s2) ∧ W.cell? ⟨B8, 2, none⟩ = some (.string s3) ∧ W.cell? ⟨B8, 3, none⟩ = some (.string s4)) ∧ W.cell? ⟨g, l1.length * 3, none⟩ = some (.int .i64 77))) (by kernel_rfl) h5.drew.held (fun hHeld => ?_)
  refine tkY 0 (some 31) rfl rfl (by kernel_rfl) (by kernel_rfl) (by kernel_rfl) (fun _ _ _ h => h) (by rfl) (v := ?tkv0) ?tky0 (by assumption) rfl ?tkr0
  case tky0 =>
    intro W' hSw
    try dsimp only at hSw
    go_simp
    first | done | with_reducible rfl
  simp only [Act.put, List.setIfInBounds_toArray, List.set_cons_zero, List.set_cons_succ]
  refine tkY 1 (some 32) rfl rfl (by kernel_rfl) (by kernel_rfl) (by kernel_rfl) (fun _ _ _ h => h) (by rfl) (v := ?tkv1) ?tky1 (by assumption) rfl ?tkr1
  case tky1 =>
    intro W' hSw
    try dsimp only at hSw
    go_simp
    first | done | with_reducible rfl
  simp only [Act.put, List.setIfInBounds_toArray, List.set_cons_zero, List.set_cons_succ]
  refine tkY 2 (some 33) rfl rfl (by kernel_rfl) (by kernel_rfl) (by kernel_rfl) (fun _ _ _ h => h) (by rfl) (v := ?tkv2) ?tky2 (by assumption) rfl ?tkr2
  case tky2 =>
    intro W' hSw
    try dsimp only at hSw
    go_simp
    first | done | with_reducible rfl
  simp only [Act.put, List.setIfInBounds_toArray, List.set_cons_zero, List.set_cons_succ]
  refine tkY 3 (some 34) rfl rfl (by kernel_rfl) (by kernel_rfl) (by kernel_rfl) (fun _ _ _ h => h) (by rfl) (v := ?tkv3) ?tky3 (by assumption) rfl ?tkr3
  case tky3 =>
    intro W' hSw
    try dsimp only at hSw
    go_simp
    first | done | with_reducible rfl
  simp only [Act.put, List.setIfInBounds_toArray, List.set_cons_zero, List.set_cons_succ]
  refine wpAnyH_ready (rs := [4]) (by kernel_rfl) (by simp) (AllReadyH.cons (at_drop rfl) (fun K hK => ?_) AllReadyH.nil)
  go_simp
  (go_at_call 13; refine (marquetryref22_Of.calls k a0_0 a0_1 A1 c1 l1 a2 s1 s2 s3 s4 _ (Kd.C_drew h5.c1) hc1 HT.out).mono ?_; rintro e w6 ⟨rfl, hB6⟩; have h6 := h5.drew.next hB6)
  refine hK.out _ _ h6.held (fun hHeld => ?_)
  clear hK K
  try simp only [Act.put, List.setIfInBounds_toArray, List.set_cons_zero, List.set_cons_succ]
  refine tkY 5 (some 36) rfl rfl (by kernel_rfl) (by kernel_rfl) (by kernel_rfl) (fun _ _ _ h => h) (by rfl) (v := ?tkv5) ?tky5 (by assumption) rfl ?tkr5
  case tky5 =>
    intro W' hSw
    try dsimp only at hSw
    go_simp
    first | done | with_reducible rfl
  simp only [Act.put, List.setIfInBounds_toArray, List.set_cons_zero, List.set_cons_succ]
  refine tkY 6 (some 37) rfl rfl (by kernel_rfl) (by kernel_rfl) (by kernel_rfl) (fun _ _ _ h => h) (by rfl) (v := ?tkv6) ?tky6 (by assumption) rfl ?tkr6
  case tky6 =>
    intro W' hSw
    try dsimp only at hSw
    go_simp
    first | done | with_reducible rfl
  simp only [Act.put, List.setIfInBounds_toArray, List.set_cons_zero, List.set_cons_succ]
  refine tkY 7 (some 38) rfl rfl (by kernel_rfl) (by kernel_rfl) (by kernel_rfl) (fun _ _ _ h => h) (by rfl) (v := ?tkv7) ?tky7 (by assumption) rfl ?tkr7
  case tky7 =>
    intro W' hSw
    try dsimp only at hSw
    go_simp
    first | done | with_reducible rfl
  simp only [Act.put, List.setIfInBounds_toArray, List.set_cons_zero, List.set_cons_succ]
  refine tkY 8 (some 39) rfl rfl (by kernel_rfl) (by kernel_rfl) (by kernel_rfl) (fun _ _ _ h => h) (by rfl) (v := ?tkv8) ?tky8 (by assumption) rfl ?tkr8
  case tky8 =>
    intro W' hSw
    try dsimp only at hSw
    go_simp
    first | done | with_reducible rfl
  simp only [Act.put, List.setIfInBounds_toArray, List.set_cons_zero, List.set_cons_succ]
  refine wpAnyH_ready (rs := [9]) (by kernel_rfl) (by simp) (AllReadyH.cons (at_drop rfl) (fun K hK => ?_) AllReadyH.nil)
  go_simp
  (go_at_call 14; refine (marquetryref09_SameAll.calls k (some ⟨g, 0, none⟩) c l1 A1 c1 l1 true _ h6.cm (by omega) h6.c1 hc1 HQ.out).mono ?_; rintro e w7 ⟨rfl, hD7⟩; have h7 := h6.next hD7.below)
  refine hK.out _ _ h7.held (fun hHeld => ?_)
  clear hK K
  try simp only [Act.put, List.setIfInBounds_toArray, List.set_cons_zero, List.set_cons_succ]
  refine tkY 10 (some 41) rfl rfl (by kernel_rfl) (by kernel_rfl) (by kernel_rfl) (fun _ _ _ h => h) (by rfl) (v := ?tkv10) ?tky10 (by assumption) rfl ?tkr10
  case tky10 =>
    intro W' hSw
    try dsimp only at hSw
    go_simp
    first | done | with_reducible rfl
  simp only [Act.put, List.setIfInBounds_toArray, List.set_cons_zero, List.set_cons_succ]
  refine tkY 11 (some 42) rfl rfl (by kernel_rfl) (by kernel_rfl) (by kernel_rfl) (fun _ _ _ h => h) (by rfl) (v := ?tkv11) ?tky11 (by assumption) rfl ?tkr11
  case tky11 =>
    intro W' hSw
    try dsimp only at hSw
    go_simp
    first | done | with_reducible rfl
  simp only [Act.put, List.setIfInBounds_toArray, List.set_cons_zero, List.set_cons_succ]
  refine tkY 12 (some 43) rfl rfl (by kernel_rfl) (by kernel_rfl) (by kernel_rfl) (fun _ _ _ h => h) (by rfl) (v := ?tkv12) ?tky12 (by assumption) rfl ?tkr12
  case tky12 =>
    intro W' hSw
    try dsimp only at hSw
    go_simp
    first | done | with_reducible rfl
  simp only [Act.put, List.setIfInBounds_toArray, List.set_cons_zero, List.set_cons_succ]
  refine tkY 13 (some 44) rfl rfl (by kernel_rfl) (by kernel_rfl) (by kernel_rfl) (fun _ _ _ h => h) (by rfl) (v := ?tkv13) ?tky13 (by assumption) rfl ?tkr13
  case tky13 =>
    intro W' hSw
    try dsimp only at hSw
    go_simp
    first | done | with_reducible rfl
  simp only [Act.put, List.setIfInBounds_toArray, List.set_cons_zero, List.set_cons_succ]
  refine tkY 14 (some 45) rfl rfl (by kernel_rfl) (by kernel_rfl) (by kernel_rfl) (fun _ _ _ h => h) (by rfl) (v := ?tkv14) ?tky14 (by assumption) rfl ?tkr14
  case tky14 =>
    intro W' hSw
    try dsimp only at hSw
    go_simp
    first | done | with_reducible rfl
  simp only [Act.put, List.setIfInBounds_toArray, List.set_cons_zero, List.set_cons_succ]
  refine tkY 15 (some 46) rfl rfl (by kernel_rfl) (by kernel_rfl) (by kernel_rfl) (fun _ _ _ h => h) (by rfl) (v := ?tkv15) ?tky15 (by assumption) rfl ?tkr15
  case tky15 =>
    intro W' hSw
    try dsimp only at hSw
    go_simp
    first | done | with_reducible rfl
  simp only [Act.put, List.setIfInBounds_toArray, List.set_cons_zero, List.set_cons_succ]
  refine tkY 16 (some 47) rfl rfl (by kernel_rfl) (by kernel_rfl) (by kernel_rfl) (fun _ _ _ h => h) (by rfl) (v := ?tkv16) ?tky16 (by assumption) rfl ?tkr16
  case tky16 =>
    intro W' hSw
    try dsimp only at hSw
    go_simp
    first | done | with_reducible rfl
  simp only [Act.put, List.setIfInBounds_toArray, List.set_cons_zero, List.set_cons_succ]
  refine tkY 17 (some 48) rfl rfl (by kernel_rfl) (by kernel_rfl) (by kernel_rfl) (fun _ _ _ h => h) (by rfl) (v := ?tkv17) ?tky17 (by assumption) rfl ?tkr17
  case tky17 =>
    intro W' hSw
    try dsimp only at hSw
    go_simp
    first | done | with_reducible rfl
  simp only [Act.put, List.setIfInBounds_toArray, List.set_cons_zero, List.set_cons_succ]
  refine tkY 18 (some 49) rfl rfl (by kernel_rfl) (by kernel_rfl) (by kernel_rfl) (fun _ _ _ h => h) (by rfl) (v := ?tkv18) ?tky18 (by assumption) rfl ?tkr18
  case tky18 =>
    intro W' hSw
    try dsimp only at hSw
    go_simp
    first | done | with_reducible rfl
  simp only [Act.put, List.setIfInBounds_toArray, List.set_cons_zero, List.set_cons_succ]
  refine tkY 19 (some 50) rfl rfl (by kernel_rfl) (by kernel_rfl) (by kernel_rfl) (fun _ _ _ h => h) (by rfl) (v := ?tkv19) ?tky19 (by assumption) rfl ?tkr19
  case tky19 =>
    intro W' hSw
    try dsimp only at hSw
    go_simp
    first | done | with_reducible rfl
  simp only [Act.put, List.setIfInBounds_toArray, List.set_cons_zero, List.set_cons_succ]
  refine tkY 20 (some 51) rfl rfl (by kernel_rfl) (by kernel_rfl) (by kernel_rfl) (fun _ _ _ h => h) (by rfl) (v := ?tkv20) ?tky20 (by assumption) rfl ?tkr20
  case tky20 =>
    intro W' hSw
    try dsimp only at hSw
    go_simp
    first | done | with_reducible rfl
  simp only [Act.put, List.setIfInBounds_toArray, List.set_cons_zero, List.set_cons_succ]
  refine tkY 21 (some 52) rfl rfl (by kernel_rfl) (by kernel_rfl) (by kernel_rfl) (fun _ _ _ h => h) (by rfl) (v := ?tkv21) ?tky21 (by assumption) rfl ?tkr21
  case tky21 =>
    intro W' hSw
    try dsimp only at hSw
    go_simp
    first | done | with_reducible rfl
  simp only [Act.put, List.setIfInBounds_toArray, List.set_cons_zero, List.set_cons_succ]
  refine tkY 22 (some 53) rfl rfl (by kernel_rfl) (by kernel_rfl) (by kernel_rfl) (fun _ _ _ h => h) (by rfl) (v := ?tkv22) ?tky22 (by assumption) rfl ?tkr22
  case tky22 =>
    intro W' hSw
    try dsimp only at hSw
    go_simp
    first | done | with_reducible rfl
  simp only [Act.put, List.setIfInBounds_toArray, List.set_cons_zero, List.set_cons_succ]
  refine tkY 23 (some 54) rfl rfl (by kernel_rfl) (by kernel_rfl) (by kernel_rfl) (fun _ _ _ h => h) (by rfl) (v := ?tkv23) ?tky23 (by assumption) rfl ?tkr23
  case tky23 =>
    intro W' hSw
    try dsimp only at hSw
    go_simp
    first | done | with_reducible rfl
  simp only [Act.put, List.setIfInBounds_toArray, List.set_cons_zero, List.set_cons_succ]
  refine tkY 24 (some 55) rfl rfl (by kernel_rfl) (by kernel_rfl) (by kernel_rfl) (fun _ _ _ h => h) (by rfl) (v := ?tkv24) ?tky24 (by assumption) rfl ?tkr24
  case tky24 =>
    intro W' hSw
    try dsimp only at hSw
    go_simp
    first | done | with_reducible rfl
  simp only [Act.put, List.setIfInBounds_toArray, List.set_cons_zero, List.set_cons_succ]
  refine wpAnyH_ready (rs := [25]) (by kernel_rfl) (by simp) (AllReadyH.cons (at_drop rfl) (fun K hK => ?_) AllReadyH.nil)
  go_simp
  (go_at_call 11; refine (marquetrylaw22_works.calls true _ rfl).mono ?_; rintro e w8 ⟨rfl, hB8⟩; have h8 := h7.next hB8)
  refine hK.out _ _ h8.held (fun hHeld => ?_)
  clear hK K
  try simp only [Act.put, List.setIfInBounds_toArray, List.set_cons_zero, List.set_cons_succ]
  refine tkY 26 (some 57) rfl rfl (by kernel_rfl) (by kernel_rfl) (by kernel_rfl) (fun _ _ _ h => h) (by rfl) (v := ?tkv26) ?tky26 (by assumption) rfl ?tkr26
  case tky26 =>
    intro W' hSw
    try dsimp only at hSw
    go_simp
    first | done | with_reducible rfl
  simp only [Act.put, List.setIfInBounds_toArray, List.set_cons_zero, List.set_cons_succ]
  refine wpAnyH_ready (rs := [27]) (by kernel_rfl) (by simp) (AllReadyH.cons (at_drop rfl) (fun K hK => ?_) AllReadyH.nil)
  go_simp
  refine hK.out _ _ h8.held (fun hHeld => ?_)
  clear hK K
  try simp only [Act.put, List.setIfInBounds_toArray, List.set_cons_zero, List.set_cons_succ]
  refine wpAnyH_done (by kernel_rfl) ?_ _
  go_wp2_with fail
  go_ret
  exact ⟨rfl, h8.below⟩


end Go.Proofs.Ytncehlbhjoejhaa.H
end
section
-- Laid by this session's hprint.py, out of the kit's print.py and texts of the session. Not trusted: Lean checks it.
namespace Go.Proofs.Ytncehlbhjoejhaa.H
open Go.RowKit Go.Proofs.YtncehlbhjoejhaaW.PrintWords Go.Proofs.YtncehlbhjoejhaaW.PrintLast Go.Proofs.YtncehlbhjoejhaaW.PrintMore
attribute [local go_sem] max2_int min2_int max_two min_two max_three min_three max_four min_four   -- for this text's walks alone
set_option linter.unusedVariables false
set_option linter.unusedSimpArgs false

-- OVPART Derived.Lib.Hide Derived.Deep.RegionHeld3 Derived.BigRegion Derived.Deep.RegionWith Derived.Deep.Cut
/-! ### marquetryref22_Check: function 17 -/
structure RkC (w W : World) (t0 t1 n : Int) (has : Bool) (least most : ByteArray) : Prop where
  b0 : W.heap[w.heap.size]? = some (.cells #[.int .i64 t0, .int .i64 t1] 24 (0, 0))
  b1 : W.heap[w.heap.size + 1]? = some (.cells #[.int .i64 n, .bool has, .string least, .string most] 31 (0, 0))
  below : Below w.heap.size w W
theorem RkC.next {w W W' : World} {t0 t1 n : Int} {has : Bool} {least most : ByteArray} (h : RkC w W t0 t1 n has least most) (hb : Below W.heap.size W W') : RkC w W' t0 t1 n has least most := ⟨blk_below h.b0 hb, blk_below h.b1 hb, below_step h.below hb⟩
theorem RkC.start (w : World) (t0 t1 n : Int) (has : Bool) (least most : ByteArray) : RkC w ((w.alloc (.cells #[.int .i64 t0, .int .i64 t1] 24)).alloc (.cells #[.int .i64 n, .bool has, .string least, .string most] 31)) t0 t1 n has least most := by
  refine ⟨blk_alloc (blk_new w _) _, ?_, below_alloc (below_alloc (Below.refl _ _) _) _⟩
  have h := blk_new (w.alloc (.cells #[.int .i64 t0, .int .i64 t1] 24)) (.cells #[.int .i64 n, .bool has, .string least, .string most] 31)
  rw [World.size_alloc] at h
  exact h
theorem RkC.cells {w W : World} {t0 t1 n : Int} {has : Bool} {least most : ByteArray} (h : RkC w W t0 t1 n has least most) : W.cell? ⟨w.heap.size, 0, none⟩ = some (.int .i64 t0) ∧ W.cell? ⟨w.heap.size, 1, none⟩ = some (.int .i64 t1) ∧
    W.cell? ⟨w.heap.size + 1, 0, none⟩ = some (.int .i64 n) ∧ W.cell? ⟨w.heap.size + 1, 1, none⟩ = some (.bool has) ∧ W.cell? ⟨w.heap.size + 1, 2, none⟩ = some (.string least) ∧ W.cell? ⟨w.heap.size + 1, 3, none⟩ = some (.string most) :=
  ⟨blk_cell h.b0 0, blk_cell h.b0 1, blk_cell h.b1 0, blk_cell h.b1 1, blk_cell h.b1 2, blk_cell h.b1 3⟩
theorem RkC.far {w W : World} {B : Nat} {t0 t1 n : Int} {has : Bool} {least most : ByteArray} (h : RkC w W t0 t1 n has least most) (hB : w.heap.size + 1 < B) (k : Nat) (v : Value) : RkC w (W.setCell ⟨B, k, none⟩ v) t0 t1 n has least most :=
  ⟨blk_far h.b0 (p := ⟨B, k, none⟩) (by show w.heap.size ≠ B; omega) v, blk_far h.b1 (p := ⟨B, k, none⟩) (by show w.heap.size + 1 ≠ B; omega) v, h.below.setCell (p := ⟨B, k, none⟩) (by show w.heap.size ≤ B; omega) v⟩
structure RkA (w W : World) (B : Nat) (t0 t1 n : Int) (has : Bool) (least most : ByteArray) (k i : Int) (t : ByteArray) : Prop where
  rc : RkC w W t0 t1 n has least most
  lt : w.heap.size + 1 < B
  ka : W.heap[B]? = some (.cells #[.int .i64 k, .int .i64 i, .string t] 29 (0, 0))
theorem RkA.next {w W W' : World} {t0 t1 n : Int} {has : Bool} {least most : ByteArray} {B : Nat} {k i : Int} {t : ByteArray} (h : RkA w W B t0 t1 n has least most k i t) (hb : Below W.heap.size W W') : RkA w W' B t0 t1 n has least most k i t := ⟨h.rc.next hb, h.lt, blk_below h.ka hb⟩
theorem RkA.start {w W : World} {t0 t1 n : Int} {has : Bool} {least most : ByteArray} (h : RkC w W t0 t1 n has least most) (k i : Int) (t : ByteArray) : RkA w (W.alloc (.cells #[.int .i64 k, .int .i64 i, .string t] 29)) W.heap.size t0 t1 n has least most k i t :=
  ⟨h.next (below_alloc (Below.refl _ _) _), blk_lt h.b1, blk_new W _⟩
theorem RkA.far {w W : World} {B B' : Nat} {t0 t1 n : Int} {has : Bool} {least most : ByteArray} {k i : Int} {t : ByteArray} (h : RkA w W B t0 t1 n has least most k i t) (hB : B < B') (j : Nat) (v : Value) : RkA w (W.setCell ⟨B', j, none⟩ v) B t0 t1 n has least most k i t :=
  ⟨h.rc.far (Nat.lt_trans h.lt hB) j v, h.lt, blk_far h.ka (p := ⟨B', j, none⟩) (by show B ≠ B'; omega) v⟩
structure RkB (w W : World) (B5 B7 : Nat) (t0 t1 n : Int) (has : Bool) (least most : ByteArray) (ak ai : Int) (at_ : ByteArray) (bk bi : Int) (bt_ : ByteArray) : Prop where
  ra : RkA w W B5 t0 t1 n has least most ak ai at_
  kb : W.heap[B7]? = some (.cells #[.int .i64 bk, .int .i64 bi, .string bt_] 29 (0, 0))
theorem RkB.next {w W W' : World} {t0 t1 n : Int} {has : Bool} {least most : ByteArray} {B5 B7 : Nat} {ak ai bk bi : Int} {at_ bt_ : ByteArray} (h : RkB w W B5 B7 t0 t1 n has least most ak ai at_ bk bi bt_) (hb : Below W.heap.size W W') : RkB w W' B5 B7 t0 t1 n has least most ak ai at_ bk bi bt_ := ⟨h.ra.next hb, blk_below h.kb hb⟩
theorem RkB.drew {w W : World} {t0 t1 n : Int} {has : Bool} {least most : ByteArray} {B5 B7 : Nat} {ak ai bk bi : Int} {at_ bt_ : ByteArray} (h : RkB w W B5 B7 t0 t1 n has least most ak ai at_ bk bi bt_) : RkB w W.drew B5 B7 t0 t1 n has least most ak ai at_ bk bi bt_ := ⟨⟨⟨h.ra.rc.b0, h.ra.rc.b1, h.ra.rc.below.drew⟩, h.ra.lt, h.ra.ka⟩, h.kb⟩
theorem RkB.start {w W : World} {t0 t1 n : Int} {has : Bool} {least most : ByteArray} {B5 : Nat} {ak ai : Int} {at_ : ByteArray} (h : RkA w W B5 t0 t1 n has least most ak ai at_) (k i : Int) (t : ByteArray) : RkB w (W.alloc (.cells #[.int .i64 k, .int .i64 i, .string t] 29)) B5 W.heap.size t0 t1 n has least most ak ai at_ k i t :=
  ⟨h.next (below_alloc (Below.refl _ _) _), blk_new W _⟩
theorem RkB.held {w W : World} {t0 t1 n : Int} {has : Bool} {least most : ByteArray} {B5 B7 : Nat} {ak ai bk bi : Int} {at_ bt_ : ByteArray} (h : RkB w W B5 B7 t0 t1 n has least most ak ai at_ bk bi bt_) :
    (W.cell? ⟨B5, 0, none⟩ = some (.int .i64 ak) ∧ W.cell? ⟨B5, 1, none⟩ = some (.int .i64 ai) ∧ W.cell? ⟨B5, 2, none⟩ = some (.string at_)) ∧ (W.cell? ⟨B7, 0, none⟩ = some (.int .i64 bk) ∧ W.cell? ⟨B7, 1, none⟩ = some (.int .i64 bi) ∧ W.cell? ⟨B7, 2, none⟩ = some (.string bt_)) :=
  ⟨⟨blk_cell h.ra.ka 0, blk_cell h.ra.ka 1, blk_cell h.ra.ka 2⟩, ⟨blk_cell h.kb 0, blk_cell h.kb 1, blk_cell h.kb 2⟩⟩
attribute [local go_sem high] eqA29
end Go.Proofs.Ytncehlbhjoejhaa.H
end
