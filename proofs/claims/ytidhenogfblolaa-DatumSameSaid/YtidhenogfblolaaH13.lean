-- Laid by this session's hprint.py, out of the kit's print.py and texts of the session. Not trusted: Lean checks it.
import Derived.Test.YtidhenogfblolaaH0
import Derived.Test.YtidhenogfblolaaH12
import Derived.Test.YtidhenogfblolaaWLast
namespace Go.Proofs.Ytidhenogfblolaa.H
open Go.RowKit Go.Proofs.YtidhenogfblolaaW.PrintWords Go.Proofs.YtidhenogfblolaaW.PrintLast Go.Proofs.YtidhenogfblolaaW.PrintMore
attribute [local go_sem] max2_int min2_int max_two min_two max_three min_three max_four min_four   -- for this text's walks alone
set_option linter.unusedVariables false
set_option linter.unusedSimpArgs false

-- OVPART Derived.Test.YtidhenogfblolaaWLast
/-! ### api_Datum: function 34 -/
-- CALLS marquetry/datum.Same
open Go.Proofs.YtidhenogfblolaaW.PrintLast in
theorem goesT_ {P : Program} {ops : Array Oper} {Q : Exit → Act → World → Prop} {rest : List Oper} {oi : Oper} {a : Act} {w : World} (N : Option Tmp) (hd : oi.dst = N) (hg : oi.guard = none) {f : FuncId} {fn : Func} {c : Operand} {xs : Array Operand} {ts : Array TypeId} (hf : P.funcs[f]? = some fn) (hname : (fn.name == "runtime.NumGoroutine") = false) (hb : fn.body.isSome = true) (args : Array Value)
    (hop : oi.op = .call { callee := .value c, args := xs, argTypes := ts }) (hc : a.eval c = .func (.func f) #[] #[]) (hargs : xs.map a.eval = args)
    (h : Calls P f args w fun e w' => ∃ v, e = .returned v ∧ wpList P ops Q rest (a.put N v) w') : wpList P ops Q (oi :: rest) a w := by
  refine wpList_plain hg fun K hK => ?_
  have he := enters_ hf hname hb args w
  have hrun : (execOp a.eval oi).run P w = .ok (.enter f args) w := by
    unfold execOp
    simp [hop, resolve, Deferred.ofValue, invoke, hc, hargs, he]
  unfold Oper.wp
  rw [hrun, Oper.upon_enter]
  refine h.mono fun e w'' hh => ?_
  obtain ⟨v, rfl, hv⟩ := hh
  exact hK _ _ (by rw [hd]; exact hv)
def sameD (x y : S31) : Bool := x.f0 == y.f0 && (x.f1 == y.f1 && (x.f2.toList == y.f2.toList))
def eqAll : List S31 → List S31 → Bool
  | [], [] => true
  | x :: xs, y :: ys => sameD x y && eqAll xs ys
  | _, _ => false
theorem eqAll_len : ∀ (l m : List S31), l.length ≠ m.length → eqAll l m = false
  | [], [], h => absurd rfl h
  | _ :: _, [], _ => rfl
  | [], _ :: _, _ => rfl
  | x :: xs, y :: ys, h => by
    unfold eqAll
    rw [eqAll_len xs ys (fun e => h (by simp [e]))]
    simp
theorem eqAll_at (l m : List S31) (k : Nat) (hk : k < l.length) (hlm : l.length = m.length) : eqAll (l.drop k) (m.drop k) = (sameD (rd_T31 l k) (rd_T31 m k) && eqAll (l.drop (k + 1)) (m.drop (k + 1))) := by
  rw [List.drop_eq_getElem_cons hk, List.drop_eq_getElem_cons (by omega : k < m.length)]
  have e1 : rd_T31 l k = l[k] := by unfold rd_T31; simp [List.getD, hk]
  have e2 : rd_T31 m k = m[k] := by unfold rd_T31; simp [List.getD, show k < m.length by omega]
  rw [e1, e2]
  rfl
theorem same_f (x y : S31) : datum_Same.f x.f0 x.f1 x.f2 y.f0 y.f1 y.f2 = some (sameD x y) := by
  unfold datum_Same.f sameD
  first | rfl | (split <;> simp_all)
set_option maxHeartbeats 8000000 in
set_option maxRecDepth 100000 in
theorem equal_func (A0 : Option Addr) (c0 : Nat) (l0 : List S31) (A1 : Option Addr) (c1 : Nat) (l1 : List S31) (w : World) (hr0 : Kd.C k31 w A0 l0.length l0) (hc0 : l0.length ≤ c0) (hr1 : Kd.C k31 w A1 l1.length l1) (hc1 : l1.length ≤ c1) (h50 : l0.length ≤ 1000000) :
    Calls Try.prog 34 #[.slice A0 l0.length c0, .slice A1 l1.length c1, .func (.func 12) #[] #[]] w fun e w' => e = .returned (.bool (eqAll l0 l1)) ∧ Below w.heap.size w w' := by
  by_cases hl : l0.length = l1.length
  · have c1b0 : ((l0.length : Int) != (l1.length : Int)) = false := bne_eq_false_iff_eq.mpr (by omega)
    have HL := Aside0.mk hl
    clear hl
    go_enter Try.func34, Try.ntmps34
    go_wp2
    go_loopw [17] (fun v wr => ∃ k : Nat, k ≤ l0.length ∧ v = .int .i64 k ∧ eqAll (l0.drop k) (l1.drop k) = eqAll l0 l1 ∧ Below w.heap.size w wr) (fun v _ => l0.length - (intOf v).toNat)
    case atStart => exact ⟨0, Nat.zero_le _, rfl, rfl, Below.refl _ _⟩
    case round =>
      obtain ⟨k, hk, rfl, he, hB⟩ := hrel
      by_cases hkn : k < l0.length
      · have hR := eqAll_at l0 l1 k hkn HL.out
        have hk1 : k < l1.length := HL.out ▸ hkn
        obtain ⟨ad0, e0, hx0, hx1, hx2⟩ := at_T31 (Kd.C_below hr0 hB) (k : Int) (by omega) (by omega)
        obtain ⟨ad1, e1, hy0, hy1, hy2⟩ := at_T31 (Kd.C_below hr1 hB) (k : Int) (by omega) (by omega)
        cases e0
        cases e1
        have hyA : ∀ o, (wr.alloc o).cell? (ad1.add ((k : Int).toNat * 3)) = some (.int .i64 (rd_T31 l1 k).f0) ∧ (wr.alloc o).cell? ⟨(ad1.add ((k : Int).toNat * 3)).block, (ad1.add ((k : Int).toNat * 3)).off + 1, none⟩ = some (.int .i64 (rd_T31 l1 k).f1) ∧ (wr.alloc o).cell? ⟨(ad1.add ((k : Int).toNat * 3)).block, (ad1.add ((k : Int).toNat * 3)).off + 2, none⟩ = some (.string (rd_T31 l1 k).f2) := fun o => by
          obtain ⟨ad, e, p0, p1, p2⟩ := at_T31 (Kd.C_below hr1 (below_alloc hB o)) (k : Int) (by omega) (by omega)
          cases e
          exact ⟨p0, p1, p2⟩
        have hz0 := fun o => (hyA o).1
        have hz1 := fun o => (hyA o).2.1
        have hz2 := fun o => (hyA o).2.2
        clear hyA
        simp only [Int.toNat_natCast] at hx0 hx1 hx2 hy0 hy1 hy2 hz0 hz1 hz2
        have hs := same_f (rd_T31 l0 k) (rd_T31 l1 k)
        generalize hg : sameD (rd_T31 l0 k) (rd_T31 l1 k) = sd at hs hR
        cases sd
        · go_wp2_with (first | ((with_reducible refine gate_dst (N := 29) rfl ?_); go_loud (refine goesT_ (some 29) rfl rfl (f := 12) Try.func12 (by kernel_rfl) rfl #[.agg #[.int .i64 (rd_T31 l0 (k : Int)).f0, .int .i64 (rd_T31 l0 (k : Int)).f1, .string (rd_T31 l0 (k : Int)).f2], .agg #[.int .i64 (rd_T31 l1 (k : Int)).f0, .int .i64 (rd_T31 l1 (k : Int)).f1, .string (rd_T31 l1 (k : Int)).f2]] rfl rfl (by (try simp only [List.map_toArray, List.map_cons, List.map_nil]); first | done | rfl) ?_; refine (datum_Same.calls _ _ _ _ _ _ _ _ hs).mono ?_; rintro e w' ⟨rfl, hb⟩; have hB2 := below_step (by repeat (first | exact hB | apply below_alloc)) hb; clear hb; refine ⟨_, rfl, ?_⟩)))
          go_ret
          exact ⟨by rw [← he, hR]; rfl, hB2⟩
        · go_wp2_with (first | ((with_reducible refine gate_dst (N := 29) rfl ?_); go_loud (refine goesT_ (some 29) rfl rfl (f := 12) Try.func12 (by kernel_rfl) rfl #[.agg #[.int .i64 (rd_T31 l0 (k : Int)).f0, .int .i64 (rd_T31 l0 (k : Int)).f1, .string (rd_T31 l0 (k : Int)).f2], .agg #[.int .i64 (rd_T31 l1 (k : Int)).f0, .int .i64 (rd_T31 l1 (k : Int)).f1, .string (rd_T31 l1 (k : Int)).f2]] rfl rfl (by (try simp only [List.map_toArray, List.map_cons, List.map_nil]); first | done | rfl) ?_; refine (datum_Same.calls _ _ _ _ _ _ _ _ hs).mono ?_; rintro e w' ⟨rfl, hb⟩; have hB2 := below_step (by repeat (first | exact hB | apply below_alloc)) hb; clear hb; refine ⟨_, rfl, ?_⟩)))
          go_roundw
          case rel => exact ⟨k + 1, by omega, rfl, by rw [← he, hR]; rfl, hB2⟩
          case measure => simp [intOf]; omega
      · have hkn' : k = l0.length := by omega
        subst hkn'
        have hz : eqAll l0 l1 = true := by rw [← he, List.drop_length, HL.out, List.drop_length]; rfl
        go_wp2
        go_ret
        exact ⟨by rw [hz]; rfl, hB⟩
  · have hz := eqAll_len l0 l1 hl
    have c1b0 : ((l0.length : Int) != (l1.length : Int)) = true := bne_iff_ne.mpr (by omega)
    go_enter Try.func34, Try.ntmps34
    go_wp2
    go_ret
    exact ⟨by rw [hz]; rfl, Below.refl _ _⟩


end Go.Proofs.Ytidhenogfblolaa.H
