/- Texts of the claim, packed: Open. -/
import Derived.Below
import Derived.ChangeOld
import Derived.OpenShut
import Derived.ProofKit
import Derived.ShutString
import Derived.SizedLaws
import Derived.Test.YtjdjlccdidfgoaaDoorZSchemaFlat4
section
/- What a row's reading tells of its arguments, as values of the print's kinds. -/
namespace Go.Proofs.YtjdjlccdidfgoaaDoorO
open Go.ChangeShapes Go.WideShapes Go.ChangeAt Go.RowKit Go.Proofs.YtjdjlccdidfgoaaDoorW.PrintWords
set_option linter.unusedVariables false

/-- Whatever reads as a type is told by a kind, and is good; up to a depth of reading. -/
def Opens {α : Type} (P : Program) (d : Kd α) (t : TypeId) (G : α → Prop) (n : Nat) : Prop :=
  ∀ {H : Type} {enc : TypeId × Value → H} {w : World} {fuel : Nat} {cs : List Value} {x : DataW H} {ps : List MemPlace}, fuel ≤ n →
    DataW.trod enc P w 0 (fun _ => true) true fuel t cs = some (x, ps) → (∀ m ∈ DataW.weights P t x, m ≤ reachBytes) → ∃ y, d.K w y cs ∧ G y

theorem Opens.imp {α : Type} {P : Program} {d : Kd α} {t : TypeId} {G G' : α → Prop} {n : Nat} (h : Opens P d t G n) (hg : ∀ y, G y → G' y) : Opens P d t G' n :=
  fun hf ht hw => let ⟨y, a, b⟩ := h hf ht hw; ⟨y, a, hg y b⟩
theorem Opens.le {α : Type} {P : Program} {d : Kd α} {t : TypeId} {G : α → Prop} {n m : Nat} (h : Opens P d t G n) (hm : m ≤ n) : Opens P d t G m :=
  fun hf ht hw => h (Nat.le_trans hf hm) ht hw
theorem Opens.int {P : Program} {t : TypeId} {k : IntKind} (ht : P.underlying t = some (.int k)) (n : Nat) : Opens P (Kd.int k) t (fun x => (Lit.int k x).wf = true) n := by
  intro H enc w fuel cs x ps _ h _
  obtain ⟨a, rfl, _, hw⟩ := DataW.trod_int ht h
  exact ⟨a, rfl, hw⟩
theorem Opens.bool {P : Program} {t : TypeId} (ht : P.underlying t = some .bool) (n : Nat) : Opens P Kd.bool t (fun _ => True) n := by
  intro H enc w fuel cs x ps _ h _
  obtain ⟨a, rfl, _⟩ := DataW.trod_bool ht h
  exact ⟨a, rfl, trivial⟩
theorem Opens.string {P : Program} {t : TypeId} (ht : P.underlying t = some .string) (n : Nat) : Opens P Kd.string t (fun s => s.size ≤ 140737488351232) n := by
  intro H enc w fuel cs x ps _ h hw
  obtain ⟨s, rfl, hx, hl⟩ := DataW.trod_string ht h
  obtain ⟨rfl, _⟩ := Prod.mk.inj hx
  refine ⟨s, rfl, ?_⟩
  have := hw s.data.toList.length (by simp [DataW.weights])
  simpa [reachBytes] using this

theorem Opens.zero {α : Type} (P : Program) (d : Kd α) (t : TypeId) (G : α → Prop) : Opens P d t G 0 := by
  intro H enc w fuel cs x ps hf hx _
  obtain rfl : fuel = 0 := by omega
  simp [DataW.trod] at hx
theorem mapM_some {α β : Type} {f : α → Option β} : ∀ {l : List α} {ys : List β}, l.mapM f = some ys → ys.length = l.length ∧ ∀ (i : Nat) (a : α), l[i]? = some a → ∃ b, ys[i]? = some b ∧ f a = some b
  | [], ys, h => by
    simp at h
    subst h
    exact ⟨rfl, fun i a h => by simp at h⟩
  | x :: l, ys, h => by
    rw [List.mapM_cons] at h
    simp only [Option.bind_eq_bind, Option.bind_eq_some_iff, Option.pure_def, Option.some.injEq] at h
    obtain ⟨b, hb, zs, hz, rfl⟩ := h
    obtain ⟨h1, h2⟩ := mapM_some hz
    refine ⟨by simp [h1], fun i a hi => ?_⟩
    cases i with
    | zero => simp at hi; subst hi; exact ⟨b, rfl, hb⟩
    | succ i => simp at hi ⊢; exact h2 i a hi
theorem list_of {β : Type} {R : Nat → β → Prop} : ∀ n, (∀ i, i < n → ∃ y, R i y) → ∃ ys : List β, ys.length = n ∧ ∀ (i : Nat) (y : β), ys[i]? = some y → R i y
  | 0, _ => ⟨[], rfl, fun i y h => by simp at h⟩
  | n + 1, h => by
    obtain ⟨ys, hl, hy⟩ := list_of n (fun i hi => h i (by omega))
    obtain ⟨y, hr⟩ := h n (by omega)
    refine ⟨ys ++ [y], by simp [hl], fun i z hi => ?_⟩
    rcases Nat.lt_or_ge i ys.length with h1 | h1
    · rw [List.getElem?_append_left h1] at hi; exact hy i z hi
    · rw [List.getElem?_append_right h1] at hi
      have : i = n := by
        rcases Nat.eq_zero_or_pos (i - ys.length) with h0 | h0
        · omega
        · rw [List.getElem?_eq_none (by simp; omega)] at hi; simp at hi
      subst this
      rw [hl, Nat.sub_self] at hi
      simp at hi
      subst hi
      exact hr
theorem weightsAll_mem {H : Type} {P : Program} {e : TypeId} : ∀ {l : List (DataW H)} {i : Nat} {x : DataW H}, l[i]? = some x → ∀ m ∈ DataW.weights P e x, m ∈ DataW.weightsAll P e l
  | [], i, x, h => by simp at h
  | y :: l, i, x, h => fun m hm => by
    rw [DataW.weightsAll]
    cases i with
    | zero => simp at h; subst h; exact List.mem_append_left _ hm
    | succ i => simp at h; exact List.mem_append_right _ (weightsAll_mem h m hm)
theorem cells_at {w : World} {b : Nat} {a : Addr} {n : Nat} {cs : List Value} (h : w.cells? b a n = some cs) : cs.length = n ∧ ∀ (i : Nat) (u : Value), cs[i]? = some u → w.cell? (a.add i) = some u := by
  unfold World.cells? at h
  split at h
  · obtain ⟨h1, h2⟩ := mapM_some h
    simp at h1
    refine ⟨h1, fun i u hu => ?_⟩
    have hi : i < n := by rw [← h1]; exact (List.getElem?_eq_some_iff.1 hu).1
    obtain ⟨b, hb, hc⟩ := h2 i i (by simp [hi])
    rw [hb] at hu
    injection hu with hu
    rw [hc, hu]
  · simp at h
theorem Opens.slice {α : Type} {P : Program} {d : Kd α} {t e : TypeId} {G : α → Prop} {n : Nat} (ht : P.underlying t = some (.slice e)) (hs : P.cellsOf e = d.sz) {B : Nat} (hB : P.bytesOf e = B) (h : Opens P d e G n) :
    Opens P (Kd.slice e d) t (fun l => l.length ≤ maxLen ∧ l.length * B ≤ 140737488351232 ∧ ∀ x ∈ l, G x) (n + 1) := by
  intro H enc w fuel cs x ps hfu hx hw
  cases fuel with
  | zero => simp [DataW.trod] at hx
  | succ fuel =>
    unfold DataW.trod at hx
    rw [ht] at hx
    match cs, hx with
    | [.slice none 0 0], hx =>
      exact ⟨[], ⟨none, 0, rfl, Nat.le_refl _, Kd.C_nil d w⟩, by simp, by simp, by simp⟩
    | [.slice (some a) len cap], hx =>
      simp only at hx
      split at hx
      · rename_i hc
        simp only [Option.bind_eq_some_iff, Option.map_eq_some_iff] at hx
        obtain ⟨elems, he, rest, hr, hx⟩ := hx
        obtain ⟨rfl, _⟩ := Prod.mk.inj hx
        obtain ⟨hl, hel⟩ := mapM_some he
        simp at hl
        have hW : ∀ m ∈ (elems.length + rest.length) * P.bytesOf e :: (DataW.weightsAll P e (elems.map (·.1)) ++ DataW.weightsAll P e (rest.map (·.1))), m ≤ reachBytes := by
          have := hw
          rw [DataW.weights, ht] at this
          simpa using this
        have hmany : ∀ i, i < len → ∃ y, (∃ c, c.length = d.sz ∧ d.K w y c ∧ ∀ j u, c[j]? = some u → w.cell? (a.add (i * d.sz + j)) = some u) ∧ G y := by
          intro i hi
          obtain ⟨b, hb, hbi⟩ := hel i i (by simp [hi])
          simp only [Option.bind_eq_some_iff] at hbi
          obtain ⟨c, hc1, hc2⟩ := hbi
          obtain ⟨hc3, hc4⟩ := cells_at hc1
          obtain ⟨y, hy, hg⟩ := h (x := b.1) (ps := b.2) (by omega) hc2 (fun m hm => hW m (List.mem_cons_of_mem _ (List.mem_append_left _ (weightsAll_mem (i := i) (x := b.1) (by simp [hb]) m hm))))
          refine ⟨y, ⟨c, by rw [hc3, hs], hy, fun j u hj => ?_⟩, hg⟩
          have := hc4 j u hj
          rw [hs, Addr.add_add] at this
          exact this
        obtain ⟨ys, hyl, hys⟩ := list_of len hmany
        refine ⟨ys, ⟨some a, cap, by rw [hyl], by omega, ⟨rfl, ?_, fun _ => ⟨a, rfl, fun j p hj => (hys j p hj).1⟩⟩⟩, ?_, ?_, ?_⟩
        · have := hc.2.2; unfold maxLen at this; omega
        · omega
        · have := hW _ (List.mem_cons_self)
          rw [hB] at this
          have h3 : reachBytes = 140737488351232 := rfl
          rw [h3] at this
          exact Nat.le_trans (Nat.mul_le_mul_right _ (by omega)) this
        · intro x hx
          obtain ⟨i, hi, rfl⟩ := List.getElem_of_mem hx
          exact (hys i _ (List.getElem?_eq_getElem hi)).2
      · simp at hx
theorem Opens.slice_ {α : Type} {P : Program} {d : Kd α} {t e : TypeId} {G : α → Prop} (ht : P.underlying t = some (.slice e)) (hs : P.cellsOf e = d.sz) {B : Nat} (hB : P.bytesOf e = B) (h : ∀ n, Opens P d e G n) :
    ∀ n, Opens P (Kd.slice e d) t (fun l => l.length ≤ maxLen ∧ l.length * B ≤ 140737488351232 ∧ ∀ x ∈ l, G x) n
  | 0 => Opens.zero _ _ _ _
  | n + 1 => Opens.slice ht hs hB (h n)
/-- Fields in line, from a cell on. -/
def OpensF {α : Type} (P : Program) (d : Kd α) (fs : List Field) (o : Nat) (G : α → Prop) (n : Nat) : Prop :=
  ∀ {H : Type} {enc : TypeId × Value → H} {w : World} {fuel : Nat} {cs : List Value} {xs : List (DataW H × List MemPlace)}, fuel ≤ n → cs.length = o + d.sz →
    fs.mapM (fun f => DataW.trod enc P w 0 (fun _ => true) true fuel f.type ((cs.drop f.offset).take (P.cellsOf f.type))) = some xs →
    (∀ m ∈ DataW.weightsEach P (fs.map (·.type)) (xs.map (·.1)), m ≤ reachBytes) → ∃ y, d.K w y (cs.drop o) ∧ G y
theorem OpensF.one {α : Type} {P : Program} {d : Kd α} {f : Field} {o : Nat} {G : α → Prop} {n : Nat} (h : Opens P d f.type G n) (ho : f.offset = o) (hs : P.cellsOf f.type = d.sz) : OpensF P d [f] o G n := by
  intro H enc w fuel cs xs hf hl hx hw
  simp only [List.mapM_cons, List.mapM_nil, Option.bind_eq_bind, Option.bind_eq_some_iff, Option.pure_def, Option.some.injEq] at hx
  obtain ⟨b, hb, zs, rfl, rfl⟩ := hx
  obtain ⟨y, hy, hg⟩ := h (x := b.1) (ps := b.2) hf hb (fun m hm => hw m (by simp [DataW.weightsEach, hm]))
  refine ⟨y, ?_, hg⟩
  rw [ho, hs, List.take_of_length_le (by simp; omega)] at hy
  exact hy
theorem OpensF.cons {α β : Type} {P : Program} {d : Kd α} {d' : Kd β} {f : Field} {fs : List Field} {o : Nat} {G : α → Prop} {G' : β → Prop} {n : Nat} (h : Opens P d f.type G n) (ho : f.offset = o) (hs : P.cellsOf f.type = d.sz) (h' : OpensF P d' fs (o + d.sz) G' n) :
    OpensF P (Kd.pair d d') (f :: fs) o (fun y => G y.1 ∧ G' y.2) n := by
  intro H enc w fuel cs xs hf hl hx hw
  have hsz : (Kd.pair d d').sz = d.sz + d'.sz := rfl
  simp only [List.mapM_cons, Option.bind_eq_bind, Option.bind_eq_some_iff, Option.pure_def, Option.some.injEq] at hx
  obtain ⟨b, hb, zs, hz, rfl⟩ := hx
  obtain ⟨y, hy, hg⟩ := h (x := b.1) (ps := b.2) hf hb (fun m hm => hw m (by simp [DataW.weightsEach, hm]))
  obtain ⟨y', hy', hg'⟩ := h' hf (by omega) hz (fun m hm => hw m (by simp only [List.map_cons, DataW.weightsEach]; exact List.mem_append_right _ hm))
  refine ⟨(y, y'), ⟨(cs.drop o).take d.sz, cs.drop (o + d.sz), ?_, ?_, hy'⟩, hg, hg'⟩
  · rw [← List.drop_drop]; exact (List.take_append_drop _ _).symm
  · rw [ho, hs] at hy; exact hy
theorem Opens.struct {α β : Type} {P : Program} {d : Kd β} {t : TypeId} {fs : Array Field} {G : β → Prop} {n : Nat} (ht : P.underlying t = some (.struct fs)) (hs : P.cellsOf t = d.sz) (h : OpensF P d fs.toList 0 G n) (f : α → β) (g : β → α) (hfg : ∀ y, f (g y) = y) :
    Opens P (Kd.iso d f) t (fun x => G (f x)) (n + 1) := by
  intro H enc w fuel cs x ps hfu hx hw
  cases fuel with
  | zero => simp [DataW.trod] at hx
  | succ fuel =>
    unfold DataW.trod at hx
    rw [ht] at hx
    simp only at hx
    split at hx
    · rename_i hc
      simp only [Option.map_eq_some_iff] at hx
      obtain ⟨xs, hxs, hx⟩ := hx
      obtain ⟨rfl, _⟩ := Prod.mk.inj hx
      obtain ⟨y, hy, hg⟩ := h (by omega) (by rw [Nat.zero_add, ← hs]; exact hc) hxs (by
        have := hw
        rw [DataW.weights, ht] at this
        simpa using this)
      exact ⟨g y, by show d.K w (f (g y)) cs; rw [hfg]; exact hy, by show G (f (g y)); rw [hfg]; exact hg⟩
    · simp at hx
theorem weightsEach_mem {H : Type} {P : Program} : ∀ {ts : List TypeId} {ds : List (DataW H)} {j : Nat} {t : TypeId} {x : DataW H}, ts[j]? = some t → ds[j]? = some x → ∀ m ∈ DataW.weights P t x, m ∈ DataW.weightsEach P ts ds
  | [], _, j, t, x, h, _ => by simp at h
  | _ :: _, [], j, t, x, _, h => by simp at h
  | t' :: ts, y :: ds, j, t, x, h, h2 => fun m hm => by
    rw [DataW.weightsEach]
    cases j with
    | zero => simp at h h2; subst h; subst h2; exact List.mem_append_left _ hm
    | succ j => simp at h h2; exact List.mem_append_right _ (weightsEach_mem h h2 m hm)
theorem weights_ok {H : Type} {P : Program} {ts : List TypeId} {ds : List (DataW H)} (hsz : (DataW.weightsEach P ts ds).all (· ≤ reachBytes) = true) {j : Nat} {t : TypeId} {x : DataW H} (ht : ts[j]? = some t) (hd : ds[j]? = some x) : ∀ m ∈ DataW.weights P t x, m ≤ reachBytes :=
  fun m hm => by
    have := List.all_eq_true.1 hsz m (weightsEach_mem ht hd m hm)
    simpa using this
structure OE {α : Type} (P : Program) (d : Kd α) (t : TypeId) (G : α → Prop) (n : Nat) : Prop where
  out : Opens P d t G n
structure OFE {α : Type} (P : Program) (d : Kd α) (fs : List Field) (o : Nat) (G : α → Prop) (n : Nat) : Prop where
  out : OpensF P d fs o G n
theorem OFE.one {α : Type} {P : Program} {d : Kd α} {f : Field} {o : Nat} {G : α → Prop} {n : Nat} (h : OE P d f.type G n) (ho : f.offset = o) (hs : P.cellsOf f.type = d.sz) : OFE P d [f] o G n := ⟨OpensF.one h.out ho hs⟩
theorem OFE.cons {α β : Type} {P : Program} {d : Kd α} {d' : Kd β} {f : Field} {fs : List Field} {o : Nat} {G : α → Prop} {G' : β → Prop} {n : Nat} (h : OE P d f.type G n) (ho : f.offset = o) (hs : P.cellsOf f.type = d.sz) (h' : OFE P d' fs (o + d.sz) G' n) :
    OFE P (Kd.pair d d') (f :: fs) o (fun y => G y.1 ∧ G' y.2) n := ⟨OpensF.cons h.out ho hs h'.out⟩
theorem OE.struct {α β : Type} {P : Program} {d : Kd β} {t : TypeId} {fs : Array Field} {G : β → Prop} {n : Nat} (ht : P.underlying t = some (.struct fs)) (hs : P.cellsOf t = d.sz) (h : OFE P d fs.toList 0 G n) (f : α → β) (g : β → α) (hfg : ∀ y, f (g y) = y) :
    OE P (Kd.iso d f) t (fun x => G (f x)) (n + 1) := ⟨Opens.struct ht hs h.out f g hfg⟩
/-- The elements' own depth is the row's. -/
theorem Opens.slice_at {α : Type} {P : Program} {d : Kd α} {t e : TypeId} {G : α → Prop} (ht : P.underlying t = some (.slice e)) (hs : P.cellsOf e = d.sz) {B : Nat} (hB : P.bytesOf e = B) : ∀ n, OE P d e G n → 
    Opens P (Kd.slice e d) t (fun l => l.length ≤ maxLen ∧ l.length * B ≤ 140737488351232 ∧ ∀ x ∈ l, G x) n
  | 0, _ => Opens.zero _ _ _ _
  | n + 1, h => Opens.slice ht hs hB (Opens.le h.out (Nat.le_succ n))
theorem OpensF.le {α : Type} {P : Program} {d : Kd α} {fs : List Field} {o : Nat} {G : α → Prop} {n m : Nat} (h : OpensF P d fs o G n) (hm : m ≤ n) : OpensF P d fs o G m :=
  fun hf hl hx hw => h (Nat.le_trans hf hm) hl hx hw
/-- A type nested in itself: what is good at each depth. -/
theorem OE.fix {α : Type} {P : Program} {F : Kd α → Kd α} {sz : Nat} {E : List Nat} {hs : ∀ n, (Kd.upto F sz E n).sz = sz} {hE : ∀ n q, q ∈ (Kd.upto F sz E n).E → q ∈ E} {t : TypeId} {G : Nat → α → Prop}
    (h : ∀ n, OE P (Kd.upto F sz E n) t (G n) n → OE P (F (Kd.upto F sz E n)) t (G (n + 1)) (n + 1)) : ∀ n, OE P (Kd.fix F sz E hs hE) t (fun x => ∃ n, G n x) n := by
  have hall : ∀ n, OE P (Kd.upto F sz E n) t (G n) n := by
    intro n
    induction n with
    | zero => exact ⟨Opens.zero _ _ _ _⟩
    | succ n ih => exact h n ih
  intro n
  refine ⟨?_⟩
  intro H enc w fuel cs x ps hf ht hw
  obtain ⟨y, a, b⟩ := (hall n).out hf ht hw
  exact ⟨y, ⟨n, a⟩, ⟨n, b⟩⟩
end Go.Proofs.YtjdjlccdidfgoaaDoorO
end
