/- Texts of the claim, packed: H11, H14, H16. -/
import Derived.Lib.Hide
import Derived.Test.YtnbmgljcnbhinaaZRecordsSame5
section
-- Laid by this session's hprint.py, out of the kit's print.py and texts of the session. Not trusted: Lean checks it.
namespace Go.Proofs.Ytnbmgljcnbhinaa.H
open Go.RowKit Go.Proofs.YtnbmgljcnbhinaaW.PrintWords Go.Proofs.YtnbmgljcnbhinaaW.PrintLast Go.Proofs.YtnbmgljcnbhinaaW.PrintMore
attribute [local go_sem] max2_int min2_int max_two min_two max_three min_three max_four min_four
set_option linter.unusedVariables false
set_option linter.unusedSimpArgs false

-- OVPART Derived.Lib.Hide
def sameDt (x y : S43) : Bool := x.f0 == y.f0 && (x.f1 == y.f1 && (x.f2.toList == y.f2.toList))
mutual
def sameL : List S40 → List S40 → Bool
 | [], [] => true
 | ⟨f⟩ :: xs, ⟨g⟩ :: ys => sameV f g && sameL xs ys
 | _, _ => false
def sameV : List S45 → List S45 → Bool
 | [], [] => true
 | ⟨d, f⟩ :: vs, ⟨e, g⟩ :: us => sameDt d e && sameL f g && sameV vs us
 | _, _ => false
end
theorem sameL_eq : ∀ l m : List S40, sameL l m = eqL (fun x y => sameV x.f0 y.f0) l m
 | [], [] => by rw [sameL]; rfl
 | [], ⟨_⟩ :: _ => by rw [sameL]; rfl; all_goals simp
 | ⟨_⟩ :: _, [] => by rw [sameL]; rfl; all_goals simp
 | ⟨f⟩ :: xs, ⟨g⟩ :: ys => by rw [sameL, sameL_eq xs ys]; rfl
theorem sameV_eq : ∀ l m : List S45, sameV l m = eqL (fun v u => sameDt v.f0 u.f0 && sameL v.f1 u.f1) l m
 | [], [] => by rw [sameV]; rfl
 | [], ⟨_, _⟩ :: _ => by rw [sameV]; rfl; all_goals simp
 | ⟨_, _⟩ :: _, [] => by rw [sameV]; rfl; all_goals simp
 | ⟨d, f⟩ :: xs, ⟨e, g⟩ :: ys => by rw [sameV, sameV_eq xs ys]; rfl
theorem sz_mem {α : Type} [SizeOf α] {x : α} {l : List α} (h : x ∈ l) : SizeOf.sizeOf x < SizeOf.sizeOf l := List.sizeOf_lt_of_mem h
theorem sz_field (x : S40) : SizeOf.sizeOf x.f0 < SizeOf.sizeOf x := by
 cases x
 simp
theorem sz_value (v : S45) : SizeOf.sizeOf v.f1 < SizeOf.sizeOf v := by
 cases v
 simp
 omega
def records_same.f (l0 l1 : List S40) : Option Bool := some (sameL l0 l1)
def SameAt (n : Nat) : Prop := ∀ (l0 l1 : List S40), SizeOf.sizeOf l0 ≤ n → ∀ (A0 : Option Addr) (c0 : Nat) (A1 : Option Addr) (c1 : Nat) (w : World), Kd.C k40 w A0 l0.length l0 → Kd.C k40 w A1 l1.length l1 →
 Calls Try.prog 16 #[.slice A0 l0.length c0, .slice A1 l1.length c1] w fun e w' => e = .returned (.bool (sameL l0 l1)) ∧ Below w.heap.size w w'
attribute [local go_sem high] eqA43
set_option maxHeartbeats 4000000 in
set_option maxRecDepth 100000 in
theorem same2_calls {n : Nat} (ih : SameAt n) (v u : S45) (hn : SizeOf.sizeOf v.f1 ≤ n) (P0 : Option Addr) (q0 : Nat) (P1 : Option Addr) (q1 : Nat) (W : World) (h0 : Kd.C k40 W P0 v.f1.length v.f1) (h1 : Kd.C k40 W P1 u.f1.length u.f1) :
  Calls Try.prog 23 #[.agg #[.int .i64 v.f0.f0, .int .i64 v.f0.f1, .string v.f0.f2, .slice P0 v.f1.length q0], .agg #[.int .i64 u.f0.f0, .int .i64 u.f0.f1, .string u.f0.f2, .slice P1 u.f1.length q1]] W fun e W' => e = .returned (.bool (sameDt v.f0 u.f0 && sameL v.f1 u.f1)) ∧ Below W.heap.size W W' := by
 have hB : Below W.heap.size W ((W.alloc (.cells #[.int .i64 v.f0.f0, .int .i64 v.f0.f1, .string v.f0.f2, .slice P0 v.f1.length q0] 45)).alloc (.cells #[.int .i64 u.f0.f0, .int .i64 u.f0.f1, .string u.f0.f2, .slice P1 u.f1.length q1] 45)) := below_alloc (below_alloc (Below.refl _ _) _) _
 have hcall := ih v.f1 u.f1 hn P0 q0 P1 q1 _ (Kd.C_below h0 hB) (Kd.C_below h1 hB)
 obtain ⟨sd, hsd⟩ : ∃ sd, sameDt v.f0 u.f0 = sd := ⟨_, rfl⟩
 rw [hsd]
 unfold sameDt at hsd
 cases sd
 ·rw [Bool.false_and]
  clear hcall
  go_enter Try.func23, Try.ntmps23
  go_wp2_with fail
  go_ret
  exact ⟨rfl, hB⟩
 ·rw [Bool.true_and]
  go_enter Try.func23, Try.ntmps23
  go_wp2_with fail
  refine hcall.mono ?_
  rintro e w1 ⟨rfl, hb⟩
  have hB2 := below_step hB hb
  clear hb
  go_wp2_with fail
  go_ret
  exact ⟨rfl, hB2⟩
set_option maxHeartbeats 4000000 in
set_option maxRecDepth 100000 in
theorem same1_calls {n : Nat} (ih : SameAt n) (x y : S40) (hn : SizeOf.sizeOf x.f0 ≤ n) (P0 : Option Addr) (q0 : Nat) (P1 : Option Addr) (q1 : Nat) (W : World) (h0 : Kd.C k45 W P0 x.f0.length x.f0) (h1 : Kd.C k45 W P1 y.f0.length y.f0) :
  Calls Try.prog 21 #[.agg #[.slice P0 x.f0.length q0], .agg #[.slice P1 y.f0.length q1]] W fun e W' => e = .returned (.bool (sameV x.f0 y.f0)) ∧ Below W.heap.size W W' := by
 have hB : Below W.heap.size W ((W.alloc (.cells #[.slice P0 x.f0.length q0] 40)).alloc (.cells #[.slice P1 y.f0.length q1] 40)) := below_alloc (below_alloc (Below.refl _ _) _) _
 rw [sameV_eq]
 go_enter Try.func21, Try.ntmps21
 go_wp2_with fail
 refine (equal_V 23 _ Try.func23 (by kernel_rfl) rfl (fun v u => sameDt v.f0 u.f0 && sameL v.f1 u.f1) P0 q0 x.f0 P1 q1 y.f0 _ (Kd.C_below h0 hB) (Kd.C_below h1 hB) (fun v u hv hu P0 q0 P1 q1 W _ g0 _ g1 => same2_calls ih v u (by have := sz_mem hv; have := sz_value v; omega) P0 q0 P1 q1 W g0 g1)).mono ?_
 rintro e w1 ⟨rfl, hb⟩
 have hB2 := below_step hB hb
 clear hb
 go_wp2_with fail
 go_ret
 exact ⟨rfl, hB2⟩
set_option maxHeartbeats 4000000 in
set_option maxRecDepth 100000 in
theorem same_step {n : Nat} (ih : SameAt n) : SameAt (n + 1) := by
 intro l0 l1 hn A0 c0 A1 c1 w hr0 hr1
 rw [sameL_eq]
 go_enter Try.func16, Try.ntmps16
 go_wp2_with fail
 refine (equal_F 21 _ Try.func21 (by kernel_rfl) rfl (fun x y => sameV x.f0 y.f0) A0 c0 l0 A1 c1 l1 _ hr0 hr1 (fun x y hx hy P0 q0 P1 q1 W _ g0 _ g1 => same1_calls ih x y (by have := sz_mem hx; have := sz_field x; omega) P0 q0 P1 q1 W g0 g1)).mono ?_
 rintro e w1 ⟨rfl, hb⟩
 go_wp2_with fail
 go_ret
 exact ⟨rfl, hb⟩
theorem same_all : ∀ n, SameAt n
 | 0 => fun l0 l1 hn => by
  exfalso
  cases l0 <;> simp at hn
 | n + 1 => same_step (same_all n)
theorem records_same.calls (A0 : Option Addr) (c0 : Nat) (l0 : List (S40)) (A1 : Option Addr) (c1 : Nat) (l1 : List (S40)) (r : Bool) (w : World) (hr0 : Kd.C k40 w A0 l0.length l0) (hc0 : l0.length ≤ c0) (hr1 : Kd.C k40 w A1 l1.length l1) (hc1 : l1.length ≤ c1) (h : records_same.f l0 l1 = some r) :
  Calls Try.prog 16 #[.slice A0 l0.length c0, .slice A1 l1.length c1] w fun e w' => e = .returned (.bool r) ∧ Below w.heap.size w w' := by
 unfold records_same.f at h
 obtain rfl := Option.some.inj h
 exact same_all _ l0 l1 (Nat.le_refl _) A0 c0 A1 c1 w hr0 hr1


end Go.Proofs.Ytnbmgljcnbhinaa.H
end
section
namespace Go.Proofs.Ytnbmgljcnbhinaa.H
open Go.RowKit Go.Proofs.YtnbmgljcnbhinaaW.PrintWords Go.Proofs.YtnbmgljcnbhinaaW.PrintLast Go.Proofs.YtnbmgljcnbhinaaW.PrintMore
attribute [local go_sem] max2_int min2_int max_two min_two max_three min_three max_four min_four
set_option linter.unusedVariables false
set_option linter.unusedSimpArgs false

def records_Same.f (l0_0 : List (S40)) (l1_0 : List (S40)) : Option (Bool) := (records_same.f l0_0 l1_0).bind fun t147 => (some t147)
set_option maxHeartbeats 8000000 in
set_option maxRecDepth 100000 in
theorem records_Same.calls (A0_0 : Option Addr) (c0_0 : Nat) (l0_0 : List (S40)) (A1_0 : Option Addr) (c1_0 : Nat) (l1_0 : List (S40)) (r : Bool) (w : World) (hr0_0 : Kd.C k40 w A0_0 l0_0.length l0_0) (hc0_0 : l0_0.length ≤ c0_0) (hr1_0 : Kd.C k40 w A1_0 l1_0.length l1_0) (hc1_0 : l1_0.length ≤ c1_0) (h : records_Same.f l0_0 l1_0 = some r) :
  Calls Try.prog 9 #[.agg #[.slice A0_0 l0_0.length c0_0], .agg #[.slice A1_0 l1_0.length c1_0]] w fun e w' => e = .returned (.bool r) ∧ Below w.heap.size w w' := by
 have hu29 := Try.underlying29
 have HR0_0 := Aside0.mk hr0_0
 have HC0_0 := Aside0.mk hc0_0
 clear hr0_0 hc0_0
 have HR1_0 := Aside0.mk hr1_0
 have HC1_0 := Aside0.mk hc1_0
 clear hr1_0 hc1_0
 have HB := Aside0.mk (Below.refl w.heap.size w)
 have H : ((records_same.f l0_0 l1_0).bind fun t147 => (some t147)) = some r := h
 clear h
 replace H := Option.bind_eq_some_iff.mp H
 obtain ⟨t147, A30, H⟩ := H
 replace H : (some t147) = some r := H
 have A3 := Aside0.mk A30
 clear A30
 obtain rfl := Option.some.inj H
 go_enter Try.func9, Try.ntmps9
 go_wp2_with (first | ((with_reducible refine gate_dst (N := 2) rfl ?_); refine box_event ?hg (N := 2) ?hd (cs := #[.slice A0_0 l0_0.length c0_0]) (t := 29) ?hr ?_; (case hd => rfl); (case hg => rfl); (case hr => first | (go_simp; done) | (go_simp; rfl)); intro gb145 hg w4 hbox hb; have n0_ := Aside0.mk (below_step (by repeat (first | (with_reducible first | exact HB.out | apply below_alloc | apply pw_below_drewN | apply below_drew1) | exact HB.out)) hb); have n1_ := Aside0.mk (hbox); have n2_ := Aside0.mk ((by rw [hg]; exact (below_size (by repeat (first | (with_reducible first | exact HB.out | apply below_alloc | apply pw_below_drewN | apply below_drew1) | exact HB.out))) : w.heap.size ≤ gb145)); have n3_ := Aside0.mk ((by rw [hg]; exact (below_size (by repeat (first | (with_reducible first | exact HB.out | apply below_alloc | apply pw_below_drewN | apply below_drew1) | exact HB.out))) : w.heap.size ≤ gb145)); clear HB; have HB := n0_; have BK145 := n1_; have GW145 := n2_; have GE145 := n3_; clear n0_ n1_ n2_ n3_; clear hb hbox hg) | ((with_reducible refine gate_dst (N := 3) rfl ?_); refine box_event ?hg (N := 3) ?hd (cs := #[.slice A1_0 l1_0.length c1_0]) (t := 29) ?hr ?_; (case hd => rfl); (case hg => rfl); (case hr => first | (go_simp; done) | (go_simp; rfl)); intro gb146 hg w5 hbox hb; have n0_ := Aside0.mk (blk_below (g := gb145) (o := .cells #[.slice A0_0 l0_0.length c0_0] 29 (0, 0)) (by (with_reducible repeat (first | refine blk_drewN ?_ _ | refine blk_drew ?_ | refine blk_alloc ?_ _)); exact BK145.out) hb); have n1_ := Aside0.mk (below_step (by repeat (first | (with_reducible first | exact HB.out | apply below_alloc | apply pw_below_drewN | apply below_drew1 | refine below_set ?_ GE145.out) | exact HB.out)) hb); have n2_ := Aside0.mk (hbox); have n3_ := Aside0.mk ((by rw [hg]; exact (below_size (by repeat (first | (with_reducible first | exact HB.out | apply below_alloc | apply pw_below_drewN | apply below_drew1 | refine below_set ?_ GE145.out) | exact HB.out))) : w.heap.size ≤ gb146)); have n4_ := Aside0.mk ((by rw [hg]; exact (below_size (by repeat (first | (with_reducible first | exact HB.out | apply below_alloc | apply pw_below_drewN | apply below_drew1 | refine below_set ?_ GE145.out) | exact HB.out))) : w.heap.size ≤ gb146)); have n5_ := Aside0.mk ((by rw [hg]; exact Nat.ne_of_lt (blk_lt (g := gb145) (o := .cells #[.slice A0_0 l0_0.length c0_0] 29 (0, 0)) (by (with_reducible repeat (first | refine blk_drewN ?_ _ | refine blk_drew ?_ | refine blk_alloc ?_ _)); exact BK145.out)) : gb145 ≠ gb146)); have n6_ := Aside0.mk ((by rw [hg]; exact Nat.ne_of_gt (blk_lt (g := gb145) (o := .cells #[.slice A0_0 l0_0.length c0_0] 29 (0, 0)) (by (with_reducible repeat (first | refine blk_drewN ?_ _ | refine blk_drew ?_ | refine blk_alloc ?_ _)); exact BK145.out)) : gb146 ≠ gb145)); clear BK145; clear HB; have BK145 := n0_; have HB := n1_; have BK146 := n2_; have GW146 := n3_; have GE146 := n4_; have NB145_146 := n5_; have NB146_145 := n6_; clear n0_ n1_ n2_ n3_ n4_ n5_ n6_; clear hb hbox hg; have hnb6 := NB145_146.out; have hnc6 := NB146_145.out; have hcz7_0 : w5.cell? ⟨gb145, 0, none⟩ = some (.slice A0_0 l0_0.length c0_0) := (blk_cell BK145.out 0).trans rfl; have hfz7_0 := blk_frozen BK145.out 0; have hcz8_0 : w5.cell? ⟨gb146, 0, none⟩ = some (.slice A1_0 l1_0.length c1_0) := (blk_cell BK146.out 0).trans rfl; have hfz8_0 := blk_frozen BK146.out 0) | ((with_reducible refine gate_callee (f := 16) rfl ?_); refine goesL_ (some 9) rfl rfl Try.func16 (by kernel_rfl) rfl #[.slice A0_0 l0_0.length c0_0, .slice A1_0 l1_0.length c1_0] rfl (by (try simp only [List.map_toArray, List.map_cons, List.map_nil]); first | done | rfl | (simp only [List.length_drop, List.length_take]; rfl)) ?_; (with_reducible refine (records_same.calls _ _ l0_0 _ _ l1_0 t147 _ ?side1 ?side2 ?side3 ?side4 A3.out).mono ?_); (case side1 => repeat (first | exact (Kd.C_below HR0_0.out HB.out) | (with_reducible refine Kd.C_alloc ?_ _) | (with_reducible refine Kd.C_drewN ?_ _) | (with_reducible refine Kd.C_drew ?_))); (case side2 => exact HC0_0.out); (case side3 => repeat (first | exact (Kd.C_below HR1_0.out HB.out) | (with_reducible refine Kd.C_alloc ?_ _) | (with_reducible refine Kd.C_drewN ?_ _) | (with_reducible refine Kd.C_drew ?_))); (case side4 => exact HC1_0.out); rintro e w9 ⟨rfl, hb⟩; refine ⟨_, rfl, ?_⟩; have n0_ := Aside0.mk (blk_below (g := gb145) (o := .cells #[.slice A0_0 l0_0.length c0_0] 29 (0, 0)) (by (with_reducible repeat (first | refine blk_drewN ?_ _ | refine blk_drew ?_ | refine blk_alloc ?_ _)); exact BK145.out) hb); have n1_ := Aside0.mk (blk_below (g := gb146) (o := .cells #[.slice A1_0 l1_0.length c1_0] 29 (0, 0)) (by (with_reducible repeat (first | refine blk_drewN ?_ _ | refine blk_drew ?_ | refine blk_alloc ?_ _)); exact BK146.out) hb); have n2_ := Aside0.mk (below_step (by repeat (first | (with_reducible first | exact HB.out | apply below_alloc | apply pw_below_drewN | apply below_drew1 | refine below_set ?_ GE145.out | refine below_set ?_ GE146.out) | exact HB.out)) hb); clear BK145; clear BK146; clear HB; have BK145 := n0_; have BK146 := n1_; have HB := n2_; clear n0_ n1_ n2_; (try clear hb); (try clear hb2); (try clear hk); (try clear hi)))
 go_ret
 exact ⟨by first | rfl | (simp [errW_none, errW_some] <;> rfl) | (simp [*, errW_none, errW_some] <;> rfl), by repeat (first | (with_reducible first | exact HB.out | apply below_alloc | apply pw_below_drewN | apply below_drew1 | refine below_set ?_ GE145.out | refine below_set ?_ GE146.out) | exact HB.out)⟩

end Go.Proofs.Ytnbmgljcnbhinaa.H
end
section
namespace Go.Proofs.Ytnbmgljcnbhinaa.H
open Go.RowKit Go.Proofs.YtnbmgljcnbhinaaW.PrintWords Go.Proofs.YtnbmgljcnbhinaaW.PrintLast Go.Proofs.YtnbmgljcnbhinaaW.PrintMore
attribute [local go_sem] max2_int min2_int max_two min_two max_three min_three max_four min_four
set_option linter.unusedVariables false
set_option linter.unusedSimpArgs false

def records_SameAll.f (l0 l1 : List S29) : Option Bool := some (eqL (fun x y => sameL x.f0 y.f0) l0 l1)
set_option maxHeartbeats 4000000 in
set_option maxRecDepth 100000 in
theorem records_SameAll.calls (A0 : Option Addr) (c0 : Nat) (l0 : List (S29)) (A1 : Option Addr) (c1 : Nat) (l1 : List (S29)) (r : Bool) (w : World) (hr0 : Kd.C k29 w A0 l0.length l0) (hc0 : l0.length ≤ c0) (hr1 : Kd.C k29 w A1 l1.length l1) (hc1 : l1.length ≤ c1) (h : records_SameAll.f l0 l1 = some r) :
  Calls Try.prog 10 #[.slice A0 l0.length c0, .slice A1 l1.length c1] w fun e w' => e = .returned (.bool r) ∧ Below w.heap.size w w' := by
 unfold records_SameAll.f at h
 obtain rfl := Option.some.inj h
 clear h
 go_enter Try.func10, Try.ntmps10
 go_wp2_with fail
 refine (equal_R 9 _ Try.func9 (by kernel_rfl) rfl (fun x y => sameL x.f0 y.f0) A0 c0 l0 A1 c1 l1 _ hr0 hr1 (fun x y _ _ P0 q0 P1 q1 W e0 g0 e1 g1 => records_Same.calls P0 q0 x.f0 P1 q1 y.f0 _ W g0 e0 g1 e1 rfl)).mono ?_
 rintro e w1 ⟨rfl, hb⟩
 go_wp2_with fail
 go_ret
 exact ⟨rfl, hb⟩


end Go.Proofs.Ytnbmgljcnbhinaa.H
end
