/- Texts of the claim, packed: H7. -/
import Derived.Maps.Own
import Derived.Tactics
import Derived.Test.YtjdjlccdidfgoaaDoorZSchemaFlat6
section
-- Laid by this session's hprint.py, out of the kit's print.py and texts of the session. Not trusted: Lean checks it.
namespace Go.Proofs.YtjdjlccdidfgoaaDoor.H
open Go.RowKit Go.Proofs.YtjdjlccdidfgoaaDoorW.PrintWords Go.Proofs.YtjdjlccdidfgoaaDoorW.PrintLast Go.Proofs.YtjdjlccdidfgoaaDoorW.PrintMore
attribute [local go_sem] max2_int min2_int max_two min_two max_three min_three max_four min_four   -- for this text's walks alone
set_option linter.unusedVariables false
set_option linter.unusedSimpArgs false

-- OVPART Derived.Maps.Own Derived.Tactics
/-! ### datum_kinds: function 63 -/
theorem wpList_insert_own {H : Type} {P : Program} (w : World) {ops : Array Oper} {rest : List Oper} {o : Oper} {a : Act} {Q : Exit → Act → World → Prop}
    (hg : o.guard = none) (m x v : Operand) (t : TypeId) (hop : o.op = Op.insert t m x v)
    (k e : TypeId) (K : Go.Maps.Keyed P k) (ht : P.underlying t = some (.map k e)) (R : Value → Option (DataW H × List MemPlace)) (b n : Nat) (D : DataW H)
    (hm : a.eval m = .map (some b)) (hown : w.ownsMap P k R b n D) (hn : n < maxLen) (key val : Value) (kl : Lit) (hx : a.eval x = key) (hv : a.eval v = val) (hkey : keyOf P k key = some kl)
    (d : DataW H) (ps : List MemPlace) (hval : R val = some (d, ps))
    (w0 : World) (N : Nat) (hB : Below N w0 w) (hN : N ≤ b) (hN' : N ≤ w.heap.size)
    (hK : ∀ w', w'.ownsMap P k R b (n + 1) (D.put kl d) → Below N w0 w' → N ≤ w'.heap.size → wpList P ops Q rest (a.put o.dst undef) w') :
    wpList P ops Q (o :: rest) a w := by
  refine wpList_plain hg fun K' hK' => ?_
  obtain ⟨w', hrun, r1, r2⟩ := hown.update K ht hn hkey hval
  unfold Oper.wp
  simp [execOp, hop, hm, hx, hv, hrun, Result.andThen]
  exact hK' _ _ (hK w' r1 (hB.grown r2 hN' (fun k hk => by cases hk; exact hN)) (Nat.le_trans hN' r2.size))
def kR (v : Value) : Option (DataW Unit × List MemPlace) :=
  match v with
  | .agg cs => (match cs.toList with
    | [.int .i64 a, .int .i64 b] => some (.agg [.lit (.int .i64 a), .lit (.int .i64 b)], [])
    | _ => none)
  | _ => none
theorem kR_inv {v : Value} {x : Int} {y : Int} {ps : List MemPlace} (h : kR v = some (.agg [.lit (.int .i64 x), .lit (.int .i64 y)], ps)) : v = .agg #[.int .i64 x, .int .i64 y] := by
  unfold kR at h
  split at h
  · rename_i cs
    split at h
    · rename_i a b e
      cases h
      have : cs = #[Value.int .i64 x, .int .i64 y] := by apply Array.ext'; simpa using e
      rw [this]
    · cases h
  · cases h
def kE (a b : Int) : DataW Unit := .agg [.lit (.int .i64 a), .lit (.int .i64 b)]
def kD : DataW Unit := .map [(.int .i64 0, kE 0 1), (.int .i64 1, kE (-2147483648) 2147483647), (.int .i64 2, kE (-9223372036854775808) 9223372036854775807), (.int .i64 4, kE 0 4294967295), (.int .i64 5, kE (-9223372036854775808) 9223372036854775807), (.int .i64 6, kE 0 0), (.int .i64 7, kE 0 0)]
def kOf (k : Int) : Option (Int × Int) :=
  if k = 0 then some (0, 1) else if k = 1 then some (-2147483648, 2147483647) else if k = 2 then some (-9223372036854775808, 9223372036854775807) else if k = 4 then some (0, 4294967295) else if k = 5 then some (-9223372036854775808, 9223372036854775807) else if k = 6 then some (0, 0) else if k = 7 then some (0, 0) else none
abbrev kK : Go.Maps.Keyed Tryd.prog 41 := Go.Maps.int_keyed (q := .i64) Tryd.underlying41
set_option maxHeartbeats 2000000 in
set_option maxRecDepth 100000 in
theorem datum_kinds.calls (w : World) : Calls Tryd.prog 63 #[] w fun e w' => e = .returned (.map (some w.heap.size)) ∧ Below w.heap.size w w' ∧ w'.ownsMap Tryd.prog 41 kR w.heap.size 7 kD := by
  have hmk := run_makeMap (P := Tryd.prog) 110 w
  have hown0 := World.ownsMap_made w Tryd.prog 41 kR
  have hB0 : Below w.heap.size w (w.alloc (.map #[] 0)) := below_alloc (Below.refl _ _) _
  have hN0 : w.heap.size ≤ (w.alloc (.map #[] 0)).heap.size := hB0.size
  generalize hw1 : w.alloc (.map #[] 0) = w1 at hmk hown0 hB0 hN0
  go_enter Tryd.func63, Tryd.ntmps63
  go_wp2_with (first | (refine wpList_insert_own (H := Unit) _ rfl _ _ _ 110 rfl 41 108 kK Tryd.underlying110 kR w.heap.size _ _ rfl (by assumption) (by decide) _ _ _ rfl rfl (Go.Maps.keyOf_int_mk Tryd.underlying41 (by decide)) _ [] rfl w w.heap.size (by assumption) (Nat.le_refl _) (by assumption) ?_; intro w' hown' hB' hN'))
  go_ret
  exact ⟨rfl, by assumption, hown'⟩
def kLo (k : Int) : Int := ((kOf k).getD (0, 0)).1
def kHi (k : Int) : Int := ((kOf k).getD (0, 0)).2
theorem kZero (w : World) : (zeroValue 108).run Tryd.prog w = .ok (.agg #[.int .i64 0, .int .i64 0]) w := by
  go_simp
theorem kAt (k : Int) (zd : DataW Unit) : kD.atKey (.int .i64 k) zd = match kOf k with | some (a, b) => kE a b | none => zd := by
  by_cases h0 : k = 0
  · subst h0; rfl
  by_cases h1 : k = 1
  · subst h1; rfl
  by_cases h2 : k = 2
  · subst h2; rfl
  by_cases h4 : k = 4
  · subst h4; rfl
  by_cases h5 : k = 5
  · subst h5; rfl
  by_cases h6 : k = 6
  · subst h6; rfl
  by_cases h7 : k = 7
  · subst h7; rfl
  have hn : kOf k = none := by simp [kOf, h0, h1, h2, h4, h5, h6, h7]
  rw [hn]
  have e0 := Ne.symm h0
  have e1 := Ne.symm h1
  have e2 := Ne.symm h2
  have e4 := Ne.symm h4
  have e5 := Ne.symm h5
  have e6 := Ne.symm h6
  have e7 := Ne.symm h7
  simp [kD, DataW.atKey, Lit.sameKey, e0, e1, e2, e4, e5, e6, e7]
set_option maxRecDepth 100000 in
open Go.ChangeShapes Go.WideShapes Go.MapKept Go.WideElems in
theorem kLook (w : World) (b n : Nat) (hown : w.ownsMap Tryd.prog 41 kR b n kD) (k : Int) :
    (Instr.lookup 110 (.map (some b)) (.int .i64 k) true).run Tryd.prog w = .ok (.tuple #[.agg #[.int .i64 (kLo k), .int .i64 (kHi k)], .bool (kOf k).isSome]) w := by
  obtain ⟨es, clock, hb, F, hs, hD⟩ := hown
  by_cases hw : (Lit.int .i64 k).wf = true
  · have hkey : keyOf Tryd.prog 41 (.int .i64 k) = some (.int .i64 k) := Go.Maps.keyOf_int_mk (q := .i64) Tryd.underlying41 hw
    rcases Go.Maps.fit_look true kK Tryd.underlying110 (kZero w) hb F hkey with ⟨hrun, _, hat⟩ | ⟨e0, y, _, _, hrun, hRv, hat, _⟩
    · have h1 := hat .nil
      rw [← hD, kAt] at h1
      rw [hrun]
      unfold kLo kHi
      cases hk : kOf k with
      | none => rfl
      | some p => rw [hk] at h1; simp [kE] at h1
    · have h1 := hat .nil
      rw [← hD, kAt] at h1
      rw [hrun]
      unfold kLo kHi
      cases hk : kOf k with
      | none =>
        rw [hk] at h1
        simp only at h1
        exfalso
        unfold kR at hRv
        split at hRv
        · split at hRv
          · cases hRv; simp at h1
          · cases hRv
        · cases hRv
      | some p =>
        rw [hk] at h1
        obtain ⟨p1, p2⟩ := p
        simp only [kE] at h1
        have : y = (.agg [.lit (.int .i64 p1), .lit (.int .i64 p2)], y.2) := by rw [h1]
        rw [this] at hRv
        rw [kR_inv hRv]
        rfl
  · have hnk : kOf k = none := by
      unfold kOf
      repeat' (split; (next h => subst h; exact absurd (by decide) hw))
      rfl
    have hks : ∀ y ∈ es.toList, IsKey (.int .i64) y.key ∧ y.key ≠ .int .i64 k := fun y hy => by
      obtain ⟨z, hz⟩ := F.reads y hy
      have hz := rd_key hz
      have hu := Tryd.underlying41
      unfold keyOf at hz
      rw [hu] at hz
      simp only [mapKey, hu] at hz
      cases hv : y.key with
      | int q a =>
        rw [hv] at hz
        simp only at hz
        split at hz
        · rename_i hc
          refine ⟨hc.1, fun e => ?_⟩
          cases e
          exact hw hc.2
        · cases hz
      | _ => rw [hv] at hz; simp at hz
    have hu := Tryd.underlying41
    have hkk : IsKey (.int .i64) (.int .i64 k) := rfl
    rcases findNow_spec hkk es.toList 0 (fun y hy => (hks y hy).1) with ⟨h1, h2⟩ | ⟨j, e0, h1, h2, h3⟩
    · unfold kLo kHi
      rw [hnk]
      simp [Instr.lookup, run_underlying Tryd.underlying110, MapKept.run_getObj_map hb, run_checkKey hu hkk _ 9999, run_findKey hu h1, kZero, Result.andThen]
    · exact absurd h3 (hks e0 (List.mem_of_getElem? h2)).2
theorem two_facts {w w' : World} {A : Obj} {x y : Value} {T : TypeId} (hb : Below ((w.alloc A).drew.alloc (.cells #[x, y] T)).heap.size ((w.alloc A).drew.alloc (.cells #[x, y] T)) w') :
    w'.frozen? ⟨w.heap.size + 1, 0, none⟩ = false ∧ w'.frozen? ⟨w.heap.size + 1, 1, none⟩ = false ∧ w'.cell? ⟨w.heap.size + 1, 0, none⟩ = some x ∧ w'.cell? ⟨w.heap.size + 1, 1, none⟩ = some y := by
  have hN : ((w.alloc A).drew.alloc (.cells #[x, y] T)).heap.size = w.heap.size + 2 := by simp [go_sem]
  have h : w.heap.size + 1 < ((w.alloc A).drew.alloc (.cells #[x, y] T)).heap.size := by rw [hN]; omega
  refine ⟨?_, ?_, ?_, ?_⟩
  · rw [hb.frozen (p := ⟨w.heap.size + 1, 0, none⟩) h]; simp [go_sem]
  · rw [hb.frozen (p := ⟨w.heap.size + 1, 1, none⟩) h]; simp [go_sem]
  · rw [hb.cell (p := ⟨w.heap.size + 1, 0, none⟩) h]; simp [go_sem]
  · rw [hb.cell (p := ⟨w.heap.size + 1, 1, none⟩) h]; simp [go_sem]
theorem two_cell (x y : Value) (w : World) (n i : Nat) : ((w.setCell ⟨n + 1, 0, none⟩ x).setCell ⟨n + 1, 1, none⟩ y).cell? ⟨n, i, none⟩ = w.cell? ⟨n, i, none⟩ :=
  (Below.setCell (Below.setCell (Below.refl (n + 1) w) (p := ⟨n + 1, 0, none⟩) (Nat.le_refl _) x) (p := ⟨n + 1, 1, none⟩) (Nat.le_refl _) y).cell (p := ⟨n, i, none⟩) (Nat.lt_succ_self _)


end Go.Proofs.YtjdjlccdidfgoaaDoor.H
end
