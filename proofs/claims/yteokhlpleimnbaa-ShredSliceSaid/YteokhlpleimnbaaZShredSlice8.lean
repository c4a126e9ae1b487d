/- Texts of the claim, packed: H15, H16. -/
import Derived.Lib.Hide
import Derived.Test.YteokhlpleimnbaaZShredSlice1
import Derived.Test.YteokhlpleimnbaaZShredSlice5
section
-- Laid by this session's hprint.py, out of the kit's print.py and texts of the session. Not trusted: Lean checks it.
namespace Go.Proofs.Yteokhlpleimnbaa.H
open Go.RowKit Go.Proofs.YteokhlpleimnbaaW.PrintWords Go.Proofs.YteokhlpleimnbaaW.PrintLast Go.Proofs.YteokhlpleimnbaaW.PrintMore
attribute [local go_sem] max2_int min2_int max_two min_two max_three min_three max_four min_four
set_option linter.unusedVariables false
set_option linter.unusedSimpArgs false

-- OVPART Derived.Test.YteokhlpleimnbaaWLast Derived.Lib.Hide
open Go.Proofs.YteokhlpleimnbaaW.PrintLast in
theorem goesC_ {P : Program} {ops : Array Oper} {Q : Exit → Act → World → Prop} {rest : List Oper} {oi : Oper} {a : Act} {w : World} (N : Option Tmp) (hd : oi.dst = N) (hg : oi.guard = none) {f : FuncId} {fn : Func} {c : Operand} {xs : Array Operand} {ts : Array TypeId} (hf : P.funcs[f]? = some fn) (hname : (fn.name == "runtime.NumGoroutine") = false) (hb : fn.body.isSome = true) (lb args : Array Value)
  (hop : oi.op = .call { callee := .value c, args := xs, argTypes := ts }) (hc : a.eval c = .func (.func f) #[] lb) (hargs : xs.map a.eval = args)
  (h : Calls P f (args ++ lb) w fun e w' => ∃ v, e = .returned v ∧ wpList P ops Q rest (a.put N v) w') : wpList P ops Q (oi :: rest) a w := by
 refine wpList_plain hg fun K hK => ?_
 have he := enters_ hf hname hb (args ++ lb) w
 have hrun : (execOp a.eval oi).run P w = .ok (.enter f (args ++ lb)) w := by
  unfold execOp
  simp [hop, resolve, Deferred.ofValue, invoke, hc, hargs, he]
 unfold Oper.wp
 rw [hrun, Oper.upon_enter]
 refine h.mono fun e w'' hh => ?_
 obtain ⟨v, rfl, hv⟩ := hh
 exact hK _ _ (by rw [hd]; exact hv)
abbrev aggD (x : S58) : Value := .agg #[.int .i64 x.f0, .int .i64 x.f1, .string x.f2]
structure TellsD (g : Nat) (lb : Array Value) (l : List S58) (p : S58 → Bool) (w : World) : Prop where
 calls : ∀ x, x ∈ l → ∀ W, Below w.heap.size w W → Calls Try.prog g (#[aggD x] ++ lb) W fun e W' => e = .returned (.bool (p x)) ∧ Below W.heap.size W W'
def idxD (p : S58 → Bool) (l : List S58) : Int := match l.findIdx? p with | some i => (i : Int) | none => -1
theorem rdD_mem (l : List S58) (k : Nat) (h : k < l.length) : rd_T58 l (k : Int) ∈ l := by
 unfold rd_T58
 rw [Int.toNat_natCast, List.getD_eq_getElem?_getD, List.getElem?_eq_getElem h]
 exact List.getElem_mem h
theorem idxD_hit (p : S58 → Bool) (l : List S58) (k : Nat) (h : k < l.length) (hno : ∀ j, j < k → p (rd_T58 l (j : Int)) = false) (hp : p (rd_T58 l (k : Int)) = true) : idxD p l = (k : Int) := by
 have hrd : ∀ j (hj : j < l.length), rd_T58 l (j : Int) = l[j] := fun j hj => by unfold rd_T58; rw [Int.toNat_natCast, List.getD_eq_getElem?_getD, List.getElem?_eq_getElem hj]; rfl
 have : l.findIdx? p = some k := by
  rw [List.findIdx?_eq_some_iff_getElem]
  refine ⟨h, by rw [← hrd k h]; exact hp, fun j hj => by rw [← hrd j (by omega), hno j hj]; simp⟩
 unfold idxD
 rw [this]
theorem idxD_miss (p : S58 → Bool) (l : List S58) (hno : ∀ j, j < l.length → p (rd_T58 l (j : Int)) = false) : idxD p l = -1 := by
 have hrd : ∀ j (hj : j < l.length), rd_T58 l (j : Int) = l[j] := fun j hj => by unfold rd_T58; rw [Int.toNat_natCast, List.getD_eq_getElem?_getD, List.getElem?_eq_getElem hj]; rfl
 have : l.findIdx? p = none := by
  rw [List.findIdx?_eq_none_iff]
  intro x hx
  obtain ⟨j, hj, rfl⟩ := List.getElem_of_mem hx
  rw [← hrd j hj]
  exact hno j hj
 unfold idxD
 rw [this]
set_option maxHeartbeats 4000000 in
set_option maxRecDepth 100000 in
theorem index_func (g : Nat) (gn : Func) (hf : Try.prog.funcs[g]? = some gn) (hname : (gn.name == "runtime.NumGoroutine") = false) (hbody : gn.body.isSome = true) (lb : Array Value) (A0 : Option Addr) (c0 : Nat) (l0 : List S58) (p : S58 → Bool) (w : World) (hr0 : Kd.C k58 w A0 l0.length l0) (hg : TellsD g lb l0 p w) (hlen : l0.length ≤ 1000000000) :
  Calls Try.prog 42 #[.slice A0 l0.length c0, .func (.func g) #[] lb] w fun e w' => e = .returned (.int .i64 (idxD p l0)) ∧ Below w.heap.size w w' := by
 go_enter Try.func42, Try.ntmps42
 go_wp2_with fail
 go_loopw [8] (fun v wr => ∃ k : Nat, k ≤ l0.length ∧ v = .int .i64 k ∧ Hid (∀ j, j < k → p (rd_T58 l0 (j : Int)) = false) ∧ Below w.heap.size w wr) (fun v _ => l0.length - (intOf v).toNat)
 case atStart => exact ⟨0, Nat.zero_le _, rfl, Lib.hid (fun j hj => absurd hj (by omega)), Below.refl _ _⟩
 case round =>
  obtain ⟨k, hk, rfl, hno, hB⟩ := hrel
  by_cases hkn : k < l0.length
  ·obtain ⟨ad0, e0, hx0, hx1, hx2⟩ := at_T58 (Kd.C_below hr0 hB) (k : Int) (by omega) (by omega)
   cases e0
   simp only [Int.toNat_natCast] at hx0 hx1 hx2
   have hcl := hg.calls _ (rdD_mem l0 k hkn) wr hB
   have HP : Hid (∃ b, b = p (rd_T58 l0 (k : Int))) := Lib.hid ⟨_, rfl⟩
   obtain ⟨b, hb⟩ := HP.out
   rw [← hb] at hcl
   have HB := Lib.hid hb
   have HCL := Lib.hid hcl
   clear hb hcl HP
   generalize hg0 : (rd_T58 l0 (k : Int)) = x at *
   cases b
   all_goals
    go_wp2_with (first | ((with_reducible refine gate_dst (N := 16) rfl ?_); refine goesC_ (some 16) rfl rfl hf hname hbody lb #[aggD x] rfl rfl (by (try simp only [List.map_toArray, List.map_cons, List.map_nil]); first | done | rfl) ?_; refine HCL.out.mono ?_; rintro e w' ⟨rfl, hb⟩; have hB2 := below_step hB hb; clear hb; refine ⟨_, rfl, ?_⟩))
   ·go_roundw
    case rel =>
     refine ⟨k + 1, by omega, by go_num, Lib.hid (fun j hj => ?_), hB2⟩
     rcases Nat.lt_succ_iff_lt_or_eq.mp hj with h | rfl
     ·exact hno.out j h
     ·rw [hg0]; exact HB.out.symm
    case measure => simp [intOf]; omega
   ·go_ret
    exact ⟨by rw [idxD_hit p l0 k hkn hno.out (by rw [hg0]; exact HB.out.symm)]; rfl, hB2⟩
  ·have hke : k = l0.length := by omega
   subst hke
   go_wp2_with fail
   go_ret
   exact ⟨by rw [idxD_miss p l0 hno.out]; rfl, hB⟩


end Go.Proofs.Yteokhlpleimnbaa.H
end
section
namespace Go.Proofs.Yteokhlpleimnbaa.H
open Go.RowKit Go.Proofs.YteokhlpleimnbaaW.PrintWords Go.Proofs.YteokhlpleimnbaaW.PrintLast Go.Proofs.YteokhlpleimnbaaW.PrintMore
attribute [local go_sem] max2_int min2_int max_two min_two max_three min_three max_four min_four
set_option linter.unusedVariables false
set_option linter.unusedSimpArgs false

-- OVPART Derived.Lib.Hide
theorem idxD_any (p : S58 → Bool) (l : List S58) : decide (idxD p l ≥ 0) = l.any p := by
 unfold idxD
 cases h : l.findIdx? p with
 | none =>
  rw [List.findIdx?_eq_none_iff] at h
  have : l.any p = false := by rw [List.any_eq_false]; intro x hx; rw [h x hx]; simp
  rw [this]
  rfl
 | some i =>
  have : l.any p = true := by
   rw [List.findIdx?_eq_some_iff_getElem] at h
   obtain ⟨hi, hp, _⟩ := h
   exact List.any_eq_true.mpr ⟨l[i], List.getElem_mem hi, hp⟩
  rw [this]
  exact decide_eq_true (show ((i : Nat) : Int) ≥ 0 by omega)
set_option maxHeartbeats 4000000 in
set_option maxRecDepth 100000 in
theorem contains_func (g : Nat) (gn : Func) (hf : Try.prog.funcs[g]? = some gn) (hname : (gn.name == "runtime.NumGoroutine") = false) (hbody : gn.body.isSome = true) (lb : Array Value) (A0 : Option Addr) (c0 : Nat) (l0 : List S58) (p : S58 → Bool) (w : World) (hr0 : Kd.C k58 w A0 l0.length l0) (hg : TellsD g lb l0 p w) (hlen : l0.length ≤ 1000000000) :
  Calls Try.prog 28 #[.slice A0 l0.length c0, .func (.func g) #[] lb] w fun e w' => e = .returned (.bool (l0.any p)) ∧ Below w.heap.size w w' := by
 have HA := Lib.hid (idxD_any p l0)
 go_enter Try.func28, Try.ntmps28
 go_wp2_with fail
 refine (index_func g gn hf hname hbody lb A0 c0 l0 p w hr0 hg hlen).mono ?_
 rintro e w1 ⟨rfl, hB⟩
 go_wp2_with fail
 go_ret
 exact ⟨by rw [← HA.out]; rfl, hB⟩


end Go.Proofs.Yteokhlpleimnbaa.H
end
