/- Texts of the claim, packed: PureSchemaLeaves. -/
import Derived.Test.YtjdjlccdidfgoaaDoorZSchemaLeaves19
import Derived.Test.YtjdjlccdidfgoaaDoorZSchemaLeaves20
import Derived.Test.YtjdjlccdidfgoaaDoorZSchemaLeaves21
section
/- The leaves of a schema, with their ways and levels, are what the document says, one by one; and Find finds a leaf by its path, or none (SchemaLeaves), at every schema and path. In a schema that may be no two leaves have one path. -/
namespace Go.Proofs.YtjdjlccdidfgoaaDoor.schemaLeaves
open Go.RowKit Go.Proofs.YtjdjlccdidfgoaaDoorW.PrintWords Go.Proofs.YtjdjlccdidfgoaaDoorW.PrintLast Go.Proofs.YtjdjlccdidfgoaaDoorW.PrintMore Go.Proofs.YtjdjlccdidfgoaaDoor.H Go.Proofs.YtjdjlccdidfgoaaDoorO Go.Proofs.YtjdjlccdidfgoaaDoor.SckAid Go.Proofs.YtjdjlccdidfgoaaDoor.LvsAid
set_option linter.unusedVariables false
set_option linter.unusedSimpArgs false
theorem rm_of : ∀ (n : Nat) (v : S62), GU62 n v → Rm v.f5 ∧ smallN v.f5 = true
  | 0, v, h => h.elim
  | n + 1, v, h => by
    obtain ⟨_, _, _, _, _, _, h1, h2⟩ := h
    refine ⟨Rm.mk _ (by omega) (fun x hx => (rm_of n x (h2 x hx)).1), ?_⟩
    have : ∀ l : List S62, (∀ x ∈ l, GU62 n x) → smallN l = true := by
      intro l
      induction l with
      | nil => intro _; rw [smallN]
      | cons x l ih =>
        intro hl
        have hx := hl x List.mem_cons_self
        have hr := (rm_of n x hx).2
        have hs : x.f0.size ≤ 140737488351232 := by
          cases n with
          | zero => exact hx.elim
          | succ n => exact hx.1
        rw [smallN_cons, decide_eq_true hs, hr, ih (fun y hy => hl y (List.mem_cons_of_mem _ hy))]
        rfl
    exact this _ h2
theorem rm_schema (y : S24) (h : G24 y) : Rm y.f1 ∧ smallN y.f1 = true := by
  obtain ⟨_, _, h1, h2⟩ := h
  have hv : ∀ x ∈ y.f1, Rm x.f5 ∧ smallN x.f5 = true ∧ x.f0.size ≤ 140737488351232 := fun x hx => by
    obtain ⟨n, hn⟩ := h2 x hx
    refine ⟨(rm_of n x hn).1, (rm_of n x hn).2, ?_⟩
    cases n with
    | zero => exact hn.elim
    | succ n => exact hn.1
  refine ⟨Rm.mk _ (by omega) (fun x hx => (hv x hx).1), ?_⟩
  have : ∀ l : List S62, (∀ x ∈ l, Rm x.f5 ∧ smallN x.f5 = true ∧ x.f0.size ≤ 140737488351232) → smallN l = true := by
    intro l
    induction l with
    | nil => intro _; rw [smallN]
    | cons x l ih =>
      intro hl
      have hx := hl x List.mem_cons_self
      rw [smallN_cons, decide_eq_true hx.2.2, hx.2.1, ih (fun y hy => hl y (List.mem_cons_of_mem _ hy))]
      rfl
  exact this _ hv
/-- How long a leaf's way is. -/
theorem long_ : ∀ (n : Nat) (l : List S62), SizeOf.sizeOf l ≤ n → ∀ (p : List ByteArray) (s : List Int) (r d : Int), ∀ q ∈ leavesL l p s r d, q.f0.length ≤ p.length + tot l ∧ q.f1.length ≤ s.length + tot l := by
  intro n
  induction n with
  | zero =>
    intro l hn
    exfalso
    cases l <;> simp at hn
  | succ n ih =>
    intro l hn p s r d q hq
    cases l with
    | nil => rw [leavesL_nil] at hq; cases hq
    | cons x xs =>
      have s1 : SizeOf.sizeOf x.f5 ≤ n := by have := szn_node' x; simp at hn; omega
      have s2 : SizeOf.sizeOf xs ≤ n := by simp at hn; omega
      rw [leavesL_cons] at hq
      rw [tot_cons]
      rcases List.mem_append.1 hq with hq | hq
      · unfold leavesN at hq
        split at hq
        · have := ih x.f5 s1 _ _ _ _ q hq
          simp only [List.length_append, List.length_singleton] at this
          omega
        · obtain rfl := List.mem_singleton.1 hq
          simp only [List.length_append, List.length_singleton]
          omega
      · have := ih xs s2 _ _ _ _ q hq
        omega
/-- No two leaves have one path; each begins with a name of the row that has not been seen. -/
theorem apart_ : ∀ (n : Nat) (l : List S62), SizeOf.sizeOf l ≤ n → ∀ (seen : List (List UInt8)) (p : List ByteArray) (s : List Int) (r d : Int), fineS l seen = true →
    ((leavesL l p s r d).map (fun q => q.f0)).Nodup ∧ ∀ q ∈ leavesL l p s r d, ∃ (nm : ByteArray) (t : List ByteArray), q.f0 = p ++ nm :: t ∧ nm.data.toList ∉ seen := by
  intro n
  induction n with
  | zero =>
    intro l hn
    exfalso
    cases l <;> simp at hn
  | succ n ih =>
    intro l hn seen p s r d hf
    cases l with
    | nil =>
      rw [leavesL_nil]
      exact ⟨by simp, fun q hq => by cases hq⟩
    | cons x xs =>
      have s1 : SizeOf.sizeOf x.f5 ≤ n := by have := szn_node' x; simp at hn; omega
      have s2 : SizeOf.sizeOf xs ≤ n := by simp at hn; omega
      rw [fineS_cons] at hf
      simp only [Bool.and_eq_true, Bool.not_eq_true', decide_eq_false_iff_not] at hf
      obtain ⟨_, hns, hk, hr⟩ := hf
      obtain ⟨j1, j2⟩ := ih xs s2 (x.f0.data.toList :: seen) p s r d hr
      have hN : ((leavesN x p s r d).map (fun q => q.f0)).Nodup ∧ ∀ q ∈ leavesN x p s r d, ∃ t, q.f0 = p ++ x.f0 :: t := by
        unfold leavesN
        split
        · obtain ⟨i1, i2⟩ := ih x.f5 s1 [] (p ++ [x.f0]) (s ++ [x.f1]) (if x.f1 = 2 then r + 1 else r) (if x.f1 = 0 then d else d + 1) hk
          refine ⟨i1, fun q hq => ?_⟩
          obtain ⟨nm, t, e, _⟩ := i2 q hq
          exact ⟨nm :: t, by rw [e]; simp⟩
        · exact ⟨by simp, fun q hq => by obtain rfl := List.mem_singleton.1 hq; exact ⟨[], rfl⟩⟩
      rw [leavesL_cons]
      refine ⟨?_, fun q hq => ?_⟩
      · rw [List.map_append, List.nodup_append]
        refine ⟨hN.1, j1, fun a ha b hb e => ?_⟩
        obtain ⟨q, hq, rfl⟩ := List.mem_map.1 ha
        obtain ⟨q', hq', rfl⟩ := List.mem_map.1 hb
        obtain ⟨t, e1⟩ := hN.2 q hq
        obtain ⟨nm, t', e2, hnm⟩ := j2 q' hq'
        have e3 : q.f0 = q'.f0 := e
        rw [e1, e2] at e3
        have e4 := List.append_cancel_left e3
        obtain ⟨e5, _⟩ := List.cons.inj e4
        rw [← e5] at hnm
        exact hnm List.mem_cons_self
      · rcases List.mem_append.1 hq with hq | hq
        · obtain ⟨t, e⟩ := hN.2 q hq
          exact ⟨x.f0, t, e, hns⟩
        · obtain ⟨nm, t, e, hnm⟩ := j2 q hq
          exact ⟨nm, t, e, fun h => hnm (List.mem_cons_of_mem _ h)⟩
theorem same_self (x : S52) (h0 : x.f0.length ≤ 1000000) (h1 : x.f1.length ≤ 1000000) : Ans (fun k => marquetryref16_SameLeaf.f k x.f0 x.f1 x.f2 x.f3 x.f4.f0 x.f4.f1 x.f0 x.f1 x.f2 x.f3 x.f4.f0 x.f4.f1) true := by
  have L1 : ∀ (e i : Nat), i + e = x.f1.length → Ans (fun k => marquetryref16_SameLeaf.l1 k (i : Int) x.f0 x.f1 x.f2 x.f3 x.f4.f0 x.f4.f1 x.f0 x.f1 x.f2 x.f3 x.f4.f0 x.f4.f1) true := by
    intro e
    induction e with
    | zero =>
      intro i hi
      refine Ans.succ (g := fun _ => some true) (fun k => ?_) (Ans.const _)
      simp only [marquetryref16_SameLeaf.l1]
      rw [if_neg (by omega)]
    | succ e ihe =>
      intro i hi
      refine Ans.succ (fun k => ?_) (ihe (i + 1) (by omega))
      simp only [marquetryref16_SameLeaf.l1]
      rw [if_pos (by omega), if_pos (by omega), if_pos (by omega), if_pos trivial, wrap_succ i (by omega)]
  have L0 : ∀ (e i : Nat), i + e = x.f0.length → Ans (fun k => marquetryref16_SameLeaf.l0 k (i : Int) x.f0 x.f1 x.f2 x.f3 x.f4.f0 x.f4.f1 x.f0 x.f1 x.f2 x.f3 x.f4.f0 x.f4.f1) true := by
    intro e
    induction e with
    | zero =>
      intro i hi
      refine Ans.succ (fun k => ?_) (L1 x.f1.length 0 (by omega))
      simp only [marquetryref16_SameLeaf.l0]
      rw [if_neg (by omega)]
      rfl
    | succ e ihe =>
      intro i hi
      refine Ans.succ (fun k => ?_) (ihe (i + 1) (by omega))
      simp only [marquetryref16_SameLeaf.l0]
      rw [if_pos (by omega), if_pos (by omega), if_pos (by omega), if_pos trivial, wrap_succ i (by omega)]
  have J0 : Ans (fun k => marquetryref16_SameLeaf.j0 k false x.f0 x.f1 x.f2 x.f3 x.f4.f0 x.f4.f1 x.f0 x.f1 x.f2 x.f3 x.f4.f0 x.f4.f1) true := by
    refine Ans.succ (fun k => ?_) (L0 x.f0.length 0 (by omega))
    simp only [marquetryref16_SameLeaf.j0]
    rw [if_neg (by decide)]
    rfl
  refine Ans.congr (fun k => ?_) J0
  unfold marquetryref16_SameLeaf.f
  rw [if_pos rfl, if_pos rfl, if_pos rfl, if_pos rfl]
  simp
theorem idx_none : ∀ (L : List S52) (p : List ByteArray) (k : Nat), (∀ q ∈ L, q.f0 ≠ p) → idxL L p k = -1
  | [], _, _, _ => rfl
  | x :: xs, p, k, h => by
    unfold idxL
    rw [if_neg (h x List.mem_cons_self)]
    exact idx_none xs p (k + 1) (fun q hq => h q (List.mem_cons_of_mem _ hq))
theorem idx_some : ∀ (L : List S52) (p : List ByteArray) (k j : Nat) (hj : j < L.length), (∀ i (hi : i < j), (L[i]'(Nat.lt_trans hi hj)).f0 ≠ p) → L[j].f0 = p → idxL L p k = ((k + j : Nat) : Int)
  | [], _, _, _, hj, _, _ => absurd hj (Nat.not_lt_zero _)
  | x :: xs, p, k, 0, hj, h, e => by
    unfold idxL
    rw [if_pos (show x.f0 = p from e)]
    rfl
  | x :: xs, p, k, j + 1, hj, h, e => by
    unfold idxL
    rw [if_neg (show ¬ x.f0 = p from h 0 (Nat.succ_pos _)), idx_some xs p (k + 1) j (by simpa using hj) (fun i hi => h (i + 1) (by omega)) e]
    congr 1
    omega
section
variable (name : ByteArray) (l : List S62) (path : List ByteArray) (L : List S52)
theorem l1_ans (hp : path.length ≤ 1000) (i : Nat) (hi : i < L.length) (hb : i ≤ 1000000) (x7 : Int) (x8 : Bool) (hA : path = L[i].f0 → Ans (fun k => marquetrylaw16_SchemaLeaves.l0 k path L L (i : Int) true ((i + 1 : Nat) : Int) name l) true) (hB : path ≠ L[i].f0 → Ans (fun k => marquetrylaw16_SchemaLeaves.l0 k path L L x7 x8 ((i + 1 : Nat) : Int) name l) true) :
    Ans (fun k => marquetrylaw16_SchemaLeaves.l1 k path L L x7 x8 (i : Int) ((path.length : Int) == (L[i].f0.length : Int)) 0 name l) true := by
  have er : rd_T52 L (i : Int) = L[i] := by unfold rd_T52; simp [List.getD, hi]
  have F : ∀ j : Int, path ≠ L[i].f0 → Ans (fun k => marquetrylaw16_SchemaLeaves.l1 k path L L x7 x8 (i : Int) false j name l) true := fun j hne => by
    refine Ans.succ (fun k => ?_) (hB hne)
    simp only [marquetrylaw16_SchemaLeaves.l1]
    rw [if_neg (by decide), wrap_succ i (by omega)]
  by_cases hl : path.length = L[i].f0.length
  · have T : ∀ (e j : Nat), j + e = path.length → path.take j = L[i].f0.take j → Ans (fun k => marquetrylaw16_SchemaLeaves.l1 k path L L x7 x8 (i : Int) true (j : Int) name l) true := by
      intro e
      induction e with
      | zero =>
        intro j hj ht
        have hpq : path = L[i].f0 := by rw [List.take_of_length_le (by omega), List.take_of_length_le (by omega)] at ht; exact ht
        refine Ans.succ (fun k => ?_) (hA hpq)
        simp only [marquetrylaw16_SchemaLeaves.l1]
        rw [if_pos trivial, if_neg (by omega), wrap_succ i (by omega)]
      | succ e ihe =>
        intro j hj ht
        have h0 : j < path.length := by omega
        have h1 : j < L[i].f0.length := by omega
        have e0 : rdOf ByteArray.empty path (j : Int) = path[j] := by unfold rdOf; simp [List.getD, h0]
        have e1 : rdOf ByteArray.empty L[i].f0 (j : Int) = L[i].f0[j] := by unfold rdOf; simp [List.getD, h1]
        by_cases hs : path[j] = L[i].f0[j]
        · refine Ans.succ (fun k => ?_) (ihe (j + 1) (by omega) (by rw [List.take_succ_eq_append_getElem h0, List.take_succ_eq_append_getElem h1, ht, hs]))
          simp only [marquetrylaw16_SchemaLeaves.l1]
          rw [if_pos trivial, if_pos (by omega), if_pos (by omega), if_pos (by omega), if_pos (by omega), er, if_pos (by omega), e0, e1, wrap_succ j (by omega), hs]
          simp
        · have hne : path ≠ L[i].f0 := fun e => hs (by simp only [e])
          have hbs : (path[j].toList == L[i].f0[j].toList) = false := beq_eq_false_iff_ne.2 (fun e => hs (bytes_eq.1 e))
          refine Ans.succ (fun k => ?_) (F ((j + 1 : Nat) : Int) hne)
          simp only [marquetrylaw16_SchemaLeaves.l1]
          rw [if_pos trivial, if_pos (by omega), if_pos (by omega), if_pos (by omega), if_pos (by omega), er, if_pos (by omega), e0, e1, wrap_succ j (by omega), hbs]
    have hT := T path.length 0 (by omega) (by simp)
    have hbl : ((path.length : Int) == (L[i].f0.length : Int)) = true := by rw [hl]; simp
    rw [hbl]
    exact hT
  · have hbl : ((path.length : Int) == (L[i].f0.length : Int)) = false := beq_eq_false_iff_ne.2 (by omega)
    rw [hbl]
    exact F 0 (fun e => hl (by rw [← e]))
theorem l0_ans (hp : path.length ≤ 1000) (hL : L.length ≤ 1000000) (hlong : ∀ q ∈ L, q.f0.length ≤ 1000000 ∧ q.f1.length ≤ 1000000) (hnd : (L.map (fun q => q.f0)).Nodup) (hfind : schema_Leaves.f name l = some L) :
    ∀ (e i : Nat), i + e = L.length → ∀ (x7 : Int) (x8 : Bool), ((x8 = false ∧ x7 = 0 ∧ ∀ j (hj : j < i) (hl : j < L.length), L[j].f0 ≠ path) ∨ ∃ (j : Nat) (hj : j < i) (hl : j < L.length), L[j].f0 = path ∧ x7 = (j : Int) ∧ x8 = true) → Ans (fun k => marquetrylaw16_SchemaLeaves.l0 k path L L x7 x8 (i : Int) name l) true := by
  have huniq : ∀ (i j : Nat) (hi : i < L.length) (hj : j < L.length), L[i].f0 = path → L[j].f0 = path → i = j := fun i j hi hj h1 h2 => by
    have hpw := List.pairwise_iff_getElem.1 hnd
    have ne : ∀ (a b : Nat) (ha : a < L.length) (hb : b < L.length), a < b → L[a].f0 = path → L[b].f0 = path → False := fun a b ha hb hab e1 e2 => hpw a b (by simpa using ha) (by simpa using hb) hab (by simp only [List.getElem_map]; rw [e1, e2])
    rcases Nat.lt_trichotomy i j with h | h | h
    · exact (ne i j hi hj h h1 h2).elim
    · exact h
    · exact (ne j i hj hi h h2 h1).elim
  intro e
  induction e with
  | zero =>
    intro i hi x7 x8 hx
    have hF : schema_Find.f name l path = some (x7, x8) := by
      unfold schema_Find.f
      rw [hfind, Option.bind_some]
      rcases hx with ⟨rfl, rfl, hn⟩ | ⟨j, hj, hl, e, rfl, rfl⟩
      · rw [idx_none L path 0 (fun q hq => by
          obtain ⟨j, hj, rfl⟩ := List.getElem_of_mem hq
          exact hn j (by omega) hj)]
        rfl
      · rw [idx_some L path 0 j hl (fun i' hi' e' => by have := huniq i' j (Nat.lt_trans hi' hl) hl e' e; omega) e]
        simp
    refine Ans.succ (g := fun _ => some true) (fun k => ?_) (Ans.const _)
    simp only [marquetrylaw16_SchemaLeaves.l0]
    rw [if_neg (by omega), hF]
    simp
  | succ e ihe =>
    intro i hi x7 x8 hx
    have hlt : i < L.length := by omega
    have er : rd_T52 L (i : Int) = L[i] := by unfold rd_T52; simp [List.getD, hlt]
    have hS := same_self L[i] (hlong _ (List.getElem_mem hlt)).1 (hlong _ (List.getElem_mem hlt)).2
    have hN := l1_ans name l path L hp i hlt (by omega) x7 x8 (fun e => ihe (i + 1) (by omega) _ _ (.inr ⟨i, Nat.lt_succ_self _, hlt, e.symm, rfl, rfl⟩)) (fun hne => ihe (i + 1) (by omega) _ _ (by
      rcases hx with ⟨h1, h2, hn⟩ | ⟨j, hj, hl, e, h1, h2⟩
      · refine .inl ⟨h1, h2, fun j hj hl => ?_⟩
        by_cases hji : j = i
        · subst hji
          exact fun e => hne e.symm
        · exact hn j (by omega) hl
      · exact .inr ⟨j, Nat.lt_succ_of_lt hj, hl, e, h1, h2⟩))
    have hg : Ans (fun k => (marquetryref16_SameLeaf.f k L[i].f0 L[i].f1 L[i].f2 L[i].f3 L[i].f4.f0 L[i].f4.f1 L[i].f0 L[i].f1 L[i].f2 L[i].f3 L[i].f4.f0 L[i].f4.f1).bind fun t218 => (if t218 = true then (marquetrylaw16_SchemaLeaves.l1 k path L L x7 x8 (i : Int) ((path.length : Int) == (L[i].f0.length : Int)) 0 name l) else (some false))) true :=
      Ans.bind (g := fun k t218 => (if t218 = true then (marquetrylaw16_SchemaLeaves.l1 k path L L x7 x8 (i : Int) ((path.length : Int) == (L[i].f0.length : Int)) 0 name l) else (some false))) hS (Ans.pos rfl hN)
    refine Ans.succ (fun k => ?_) hg
    simp only [marquetrylaw16_SchemaLeaves.l0]
    rw [if_pos (by omega), if_pos (by omega), if_pos (by omega), er]
end
theorem pure_ : Pure := by
  intro y0 y1 g0 g1
  obtain ⟨r0, s0⟩ := rm_schema y0 g0
  have hck : schema_Check.f y0.f0 y0.f1 = some (if checkB y0.f0 y0.f1 = true then 0 else 2) := by
    unfold schema_Check.f checkB
    rw [if_pos s0]
    congr 1
    by_cases h : nameB y0.f0 = true ∧ y0.f1.length ≠ 0 ∧ (fineN y0.f1 1 256 []).1 = true
    · rw [if_pos h, if_pos (by rw [h.1, h.2.2, decide_eq_true h.2.1]; rfl)]
    · rw [if_neg h, if_neg]
      intro hh
      simp only [Bool.and_eq_true, decide_eq_true_eq] at hh
      exact h ⟨hh.1, hh.2.1, hh.2.2⟩
  obtain ⟨L, hLe⟩ : ∃ L, L = (if checkB y0.f0 y0.f1 = true then leavesL y0.f1 [] [] 0 0 else []) := ⟨_, rfl⟩
  have hLv : schema_Leaves.f y0.f0 y0.f1 = some L := by
    unfold schema_Leaves.f
    rw [hck, Option.bind_some, hLe]
    by_cases hc : checkB y0.f0 y0.f1 = true
    · rw [if_pos hc, if_pos hc, if_neg (by decide)]
    · rw [if_neg hc, if_neg hc, if_pos (by decide)]
  have hRf := Leaves_ans y0.f0 r0.sm
  rw [← hLe] at hRf
  have hfacts : L.length ≤ 1000000 ∧ (∀ q ∈ L, q.f0.length ≤ 1000000 ∧ q.f1.length ≤ 1000000) ∧ (L.map (fun q => q.f0)).Nodup := by
    by_cases hc : checkB y0.f0 y0.f1 = true
    · rw [if_pos hc] at hLe
      unfold checkB at hc
      simp only [Bool.and_eq_true] at hc
      obtain ⟨hi, -⟩ := fineN_is _ y0.f1 (Nat.le_refl _) 1 256 [] (by omega) (by omega)
      obtain ⟨h1, _, h3⟩ := hi.1 hc.2.2
      rw [hLe]
      refine ⟨?_, fun q hq => ?_, (apart_ _ y0.f1 (Nat.le_refl _) [] [] [] 0 0 h3).1⟩
      · have := LvsAid.leavesL_len _ y0.f1 (Nat.le_refl _) [] [] 0 0
        omega
      · have := long_ _ y0.f1 (Nat.le_refl _) [] [] 0 0 q hq
        simp only [List.length_nil] at this
        omega
    · rw [if_neg hc] at hLe
      rw [hLe]
      exact ⟨by simp, (fun q hq => by cases hq), by simp⟩
  obtain ⟨c0, hc0, -⟩ := count_all r0.sm
  have hJ : ∀ b : Bool, (b = false → y1.length ≤ 1000) → Ans (fun k => marquetrylaw16_SchemaLeaves.j0 k y1 b y0.f0 y0.f1) true := by
    intro b hb
    cases b with
    | true =>
      refine Ans.succ (g := fun _ => some true) (fun k => ?_) (Ans.const _)
      simp only [marquetrylaw16_SchemaLeaves.j0]
      rw [if_pos trivial]
    | false =>
      have h0 := l0_ans y0.f0 y0.f1 y1 L (hb rfl) hfacts.1 hfacts.2.1 hfacts.2.2 hLv L.length 0 (by omega) 0 false (.inl ⟨rfl, rfl, fun j hj => absurd hj (Nat.not_lt_zero _)⟩)
      refine Ans.succ (g := fun k => (marquetryref16_Leaves.f k y0.f0 y0.f1).bind fun t211 => (if (L.length : Int) = (t211.length : Int) then (marquetrylaw16_SchemaLeaves.l0 k y1 L t211 0 false 0 y0.f0 y0.f1) else (some false))) (fun k => ?_) ?_
      · simp only [marquetrylaw16_SchemaLeaves.j0]
        rw [if_neg (by decide), hLv, Option.bind_some]
      · exact Ans.bind (g := fun k t211 => (if (L.length : Int) = (t211.length : Int) then (marquetrylaw16_SchemaLeaves.l0 k y1 L t211 0 false 0 y0.f0 y0.f1) else (some false))) hRf (Ans.pos rfl h0)
  have hfin : Ans (fun k => marquetrylaw16_SchemaLeaves.f k y0.f0 y0.f1 y1) true := by
    unfold marquetrylaw16_SchemaLeaves.f
    refine Ans.bind hc0 ?_
    by_cases hc : c0 > 60
    · exact Ans.pos hc (hJ true (fun h => by cases h))
    · exact Ans.neg hc (hJ _ (fun h => by have := of_decide_eq_false h; omega))
  exact hfin.get
end Go.Proofs.YtjdjlccdidfgoaaDoor.schemaLeaves
end
